/- Arrays of numbers: loaded whole, and held against each other. No program stands here. All blocks but one as they were. No program stands here. All blocks but those of a kind as they were. No program stands here. append onto a row of the call's own: the law with the new row's block. No program stands here. A region that draws its order and whose operations only let the world go on along a preorder E (new blocks; one block of a kind known): ONE walk of the text's order serves every order. Values that hang on the order (addresses of new blocks) are told by words of their own (T). After the kit's own theorem on quiet regions; no program stands here. The region theorem in the forms that a walk uses: the whole region, or all but a tail in a forced order. The region theorem within a round of a range over a function (the wide fence). A step of a drawn region whose facts are forgotten: what is known then grows by one word a step, and not twofold. The walk stands in a structure, so that no tactic opens it while it looks at the goal. No program stands here. The region theorem under the wide fence itself (the body of an iterator). -/
import Derived.Test.YtjnobdcbbboeeaaGreatH1
import Derived.ChangeKeysEq
import Derived.StillTail
import Derived.BigQuiet
import Derived.RangeFuncNested
import Derived.RangeFuncBound
import Derived.RangeFuncCalls
import Derived.RangeFuncLeaves
import Derived.OwnWalkIn
import Derived.TacticsInMore
import Derived.LoopNIn
import Derived.LoopIn
import Derived.Shelf.AbstractIn
namespace Go.Proofs.YtjnobdcbbboeeaaGreat
open Go Go.RowKit
set_option linter.unusedVariables false
set_option linter.unusedSimpArgs false

section
variable {P : Program}

theorem run_loadVar_cells (w : World) (ty : TypeId) (p : Addr) (cs : List Value) (d : TypeDesc) (h : ∀ j v, cs[j]? = some v → w.cell? (p.add j) = some v)
    (hu : P.underlying ty = some d) (hd : (match d with | .struct _ | .array _ _ => true | _ => false) = true) (hi : (P.info? ty).map (·.size) = some cs.length) :
    (loadVar ty p).run P w = .ok (.agg cs.toArray) w := by
  have hl := run_loadCells_list (P := P) w p cs h
  cases hq : P.info? ty with
  | none => simp [hq] at hi
  | some i =>
    have hs : i.size = cs.length := by simpa [hq] using hi
    have hagg : (isAgg ty).run P w = .ok true w := by
      unfold isAgg
      rw [Sem.run_bind, run_underlying hu w]
      cases d <;> simp_all
    simp [loadVar, Sem.run_bind, hagg, sizeOf, typeInfo, hq, hs, hl]

/-- An operation that loads a whole array. -/
theorem run_load_cells (w : World) {o : Oper} (ρ : Operand → Value) (ty : TypeId) (x : Operand) (ho : o.op = .load ty x) (p : Addr) (hx : ρ x = .pointer (some p)) (cs : List Value) (d : TypeDesc)
    (h : ∀ j v, cs[j]? = some v → w.cell? (p.add j) = some v)
    (hu : P.underlying ty = some d) (hd : (match d with | .struct _ | .array _ _ => true | _ => false) = true) (hi : (P.info? ty).map (·.size) = some cs.length) :
    (execOp ρ o).run P w = .ok (.value (.agg cs.toArray)) w := by
  unfold execOp
  simp only [ho, hx, Instr.loadAt, Instr.sureAddr, Sem.run_bind, Sem.run_pure, Result.andThen_ok, run_loadVar_cells w ty p cs d h hu hd hi]

theorem wpList_load_cells {ops : Array Oper} {rest : List Oper} {o : Oper} {a : Act} {w : World} {Q : Exit → Act → World → Prop} (hgd : o.guard = none) (ty : TypeId) (x : Operand) (ho : o.op = .load ty x)
    (p : Addr) (hx : a.eval x = .pointer (some p)) (cs : List Value) (d : TypeDesc) (h : ∀ j v, cs[j]? = some v → w.cell? (p.add j) = some v)
    (hu : P.underlying ty = some d) (hd : (match d with | .struct _ | .array _ _ => true | _ => false) = true) (hi : (P.info? ty).map (·.size) = some cs.length)
    (hn : wpList P ops Q rest (a.put o.dst (.agg cs.toArray)) w) : wpList P ops Q (o :: rest) a w :=
  wpList_plain hgd fun _ hK => by
    unfold Oper.wp
    rw [run_load_cells w a.eval ty x ho p hx cs d h hu hd hi]
    exact hK _ _ hn

/-! ### '==' -/
theorem run_part_int (w : World) (e : TypeId) (k : IntKind) (he : P.underlying e = some (.int k)) (xs : List Int) (i : Nat) (x : Int) (h : xs[i]? = some x) :
    (part e (xs.map (Value.int k)).toArray i).run P w = .ok (.int k x) w := by
  have hagg : (isAgg e).run P w = .ok false w := by
    unfold isAgg
    rw [Sem.run_bind, run_underlying he w]
    simp
  simp [part, Sem.run_bind, hagg, h]

theorem eqItems_ints (w : World) (d : Nat) (e : TypeId) (k : IntKind) (he : P.underlying e = some (.int k)) (xs ys : List Int) : ∀ (is : List Nat), (∀ i ∈ is, i < xs.length ∧ i < ys.length) →
    (Op.eqItems (d + 1) e 1 (xs.map (Value.int k)).toArray (ys.map (Value.int k)).toArray is).run P w = .ok (is.all fun i => xs[i]? == ys[i]?) w
  | [], _ => by simp [Op.eqItems]
  | i :: is, h => by
    obtain ⟨h1, h2⟩ := h i (by simp)
    have hx : xs[i]? = some xs[i] := List.getElem?_eq_getElem h1
    have hy : ys[i]? = some ys[i] := List.getElem?_eq_getElem h2
    have ih := eqItems_ints w d e k he xs ys is (fun j hj => h j (by simp [hj]))
    unfold Op.eqItems
    simp only [Nat.mul_one, Sem.run_bind, run_part_int w e k he xs i _ hx, run_part_int w e k he ys i _ hy, Result.andThen_ok, run_equalIn_int w d e k k _ _ he, List.all_cons, hx, hy]
    cases hq : (xs[i] == ys[i])
    · have : (some xs[i] == some ys[i]) = false := by simpa using hq
      simp [this]
    · have : (some xs[i] == some ys[i]) = true := by simpa using hq
      simp [this, ih]

theorem all_range_eq (xs ys : List Int) (h : xs.length = ys.length) : ((List.range xs.length).all fun i => xs[i]? == ys[i]?) = (xs == ys) := by
  rw [Bool.eq_iff_iff]
  simp only [List.all_eq_true, List.mem_range, beq_iff_eq]
  constructor
  · intro hh
    apply List.ext_getElem? fun i => ?_
    rcases Nat.lt_or_ge i xs.length with hi | hi
    · exact hh i hi
    · rw [List.getElem?_eq_none hi, List.getElem?_eq_none (by omega)]
  · rintro rfl i _; rfl

/-- '==' of two arrays of numbers. -/
theorem run_equalIn_arr1 (w : World) (d : Nat) (t e : TypeId) (k : IntKind) (n : Nat) (ht : P.underlying t = some (.array n e)) (he : P.underlying e = some (.int k)) (hi : (P.info? e).isSome = true) (hc : P.cellsOf e = 1)
    (xs ys : List Int) (hx : xs.length = n) (hy : ys.length = n) : (Op.equalIn (d + 2) t (.agg (xs.map (Value.int k)).toArray) (.agg (ys.map (Value.int k)).toArray)).run P w = .ok (xs == ys) w := by
  obtain ⟨i, hi⟩ := Option.isSome_iff_exists.1 hi
  rw [run_equalIn_array (w := w) (d + 1) _ _ ht hi, hc, eqItems_ints w d e k he xs ys _ (fun i hi => by simp at hi; omega), ← hx, all_range_eq xs ys (by omega)]

def rowOf (m : Nat) (xs : List Int) (i : Nat) : List Int := (xs.drop (i * m)).take m
theorem rowOf_len (m n : Nat) (xs : List Int) (hx : xs.length = n * m) (i : Nat) (hi : i < n) : (rowOf m xs i).length = m := by
  have h1 : i * m + m ≤ n * m := by
    have := Nat.mul_le_mul_right m (show i + 1 ≤ n by omega)
    rw [Nat.add_mul] at this; omega
  simp [rowOf, hx]; omega

theorem run_part_row (w : World) (t2 e : TypeId) (k : IntKind) (m : Nat) (ht2 : P.underlying t2 = some (.array m e)) (hi2 : (P.info? t2).isSome = true) (hc2 : P.cellsOf t2 = m) (xs : List Int) (i : Nat) :
    (part t2 (xs.map (Value.int k)).toArray (i * m)).run P w = .ok (.agg ((rowOf m xs i).map (Value.int k)).toArray) w := by
  have hagg : (isAgg t2).run P w = .ok true w := by
    unfold isAgg
    rw [Sem.run_bind, run_underlying ht2 w]
    simp
  obtain ⟨inf, hinf⟩ := Option.isSome_iff_exists.1 hi2
  simp only [part, Sem.run_bind, hagg, Result.andThen_ok, if_true, run_sizeOf w hinf, hc2, Sem.run_pure]
  congr 2
  simp [rowOf, List.map_drop, List.map_take, List.extract_eq_take_drop]

theorem rows_eq (m : Nat) (xs ys : List Int) : ∀ n, xs.length = n * m → ys.length = n * m → ((List.range n).all fun i => rowOf m xs i == rowOf m ys i) = (xs == ys) := by
  intro n hx hy
  rw [Bool.eq_iff_iff]
  simp only [List.all_eq_true, List.mem_range, beq_iff_eq]
  constructor
  · intro hh
    rcases Nat.eq_zero_or_pos m with hm | hm
    · subst hm; simp at hx hy; rw [hx, hy]
    · apply List.ext_getElem? fun j => ?_
      rcases Nat.lt_or_ge j xs.length with hj | hj
      · have hq : j / m < n := Nat.div_lt_of_lt_mul (by rw [Nat.mul_comm]; omega)
        have hr := congrArg (fun l => l[j % m]?) (hh (j / m) hq)
        have hmod : j % m < m := Nat.mod_lt _ hm
        have hdj : j / m * m + j % m = j := by rw [Nat.mul_comm]; exact Nat.div_add_mod j m
        simp only [rowOf, List.getElem?_take, hmod, if_true, List.getElem?_drop, hdj] at hr
        exact hr
      · rw [List.getElem?_eq_none hj, List.getElem?_eq_none (by omega)]
  · rintro rfl i _; rfl

theorem eqItems_rows (w : World) (d : Nat) (t2 e : TypeId) (k : IntKind) (n m : Nat) (ht2 : P.underlying t2 = some (.array m e)) (hi2 : (P.info? t2).isSome = true) (hc2 : P.cellsOf t2 = m) (he : P.underlying e = some (.int k)) (hi : (P.info? e).isSome = true) (hc : P.cellsOf e = 1)
    (xs ys : List Int) (hx : xs.length = n * m) (hy : ys.length = n * m) : ∀ (is : List Nat), (∀ i ∈ is, i < n) →
    (Op.eqItems (d + 2) t2 m (xs.map (Value.int k)).toArray (ys.map (Value.int k)).toArray is).run P w = .ok (is.all fun i => rowOf m xs i == rowOf m ys i) w
  | [], _ => by simp [Op.eqItems]
  | i :: is, h => by
    have ih := eqItems_rows w d t2 e k n m ht2 hi2 hc2 he hi hc xs ys hx hy is (fun j hj => h j (by simp [hj]))
    have hin := h i (by simp)
    unfold Op.eqItems
    simp only [Sem.run_bind, run_part_row w t2 e k m ht2 hi2 hc2, Result.andThen_ok, run_equalIn_arr1 w d t2 e k m ht2 he hi hc _ _ (rowOf_len m n xs hx i hin) (rowOf_len m n ys hy i hin), List.all_cons]
    cases hq : (rowOf m xs i == rowOf m ys i)
    · simp
    · simp [ih]

/-- '==' of two arrays of arrays of numbers. -/
theorem run_equalIn_arr2 (w : World) (d : Nat) (t t2 e : TypeId) (k : IntKind) (n m : Nat) (ht : P.underlying t = some (.array n t2)) (ht2 : P.underlying t2 = some (.array m e)) (hi2 : (P.info? t2).isSome = true) (hc2 : P.cellsOf t2 = m) (he : P.underlying e = some (.int k)) (hi : (P.info? e).isSome = true) (hc : P.cellsOf e = 1)
    (xs ys : List Int) (hx : xs.length = n * m) (hy : ys.length = n * m) : (Op.equalIn (d + 3) t (.agg (xs.map (Value.int k)).toArray) (.agg (ys.map (Value.int k)).toArray)).run P w = .ok (xs == ys) w := by
  obtain ⟨inf, hinf⟩ := Option.isSome_iff_exists.1 hi2
  rw [run_equalIn_array (w := w) (d + 2) _ _ ht hinf, hc2, eqItems_rows w d t2 e k n m ht2 hi2 hc2 he hi hc xs ys hx hy _ (fun i hi => by simpa using hi), rows_eq m xs ys n hx hy]

/-- The operation '==' over two arrays. -/
theorem run_eql_op (w : World) {o : Oper} (ρ : Operand → Value) (t ty : TypeId) (x y : Operand) (ho : o.op = .binOp .eql t x y ty) (xs ys : Array Value) (hx : ρ x = .agg xs) (hy : ρ y = .agg ys) (b : Bool)
    (hg : P.eqGuardType P.depth t = false) (he : (Op.equalIn 10000 t (.agg xs) (.agg ys)).run P w = .ok b w) : (execOp ρ o).run P w = .ok (.value (.bool b)) w := by
  unfold execOp
  simp only [ho, hx, hy, Sem.run_bind, run_eqGuard_agg w .eql t x y xs ys hg, Result.andThen_ok, run_eql_struct w t xs ys, he, Sem.run_pure]
end
end Go.Proofs.YtjnobdcbbboeeaaGreat

namespace Go.Proofs.YtjnobdcbbboeeaaGreat
open Go Go.RowKit
set_option linter.unusedVariables false
set_option linter.unusedSimpArgs false

/-! ### All blocks but one as they were -/
/-- Nothing that lay has turned but block D. -/
def Bel (D : Nat) (w w' : World) : Prop := Below 0 w w' ∧ ∀ k, k < w.heap.size → k ≠ D → w'.heap[k]? = w.heap[k]?
theorem Bel.refl (D : Nat) (w : World) : Bel D w w := ⟨Below.refl _ _, fun _ _ _ => rfl⟩
theorem Bel.size {D : Nat} {w w' : World} (h : Bel D w w') : w.heap.size ≤ w'.heap.size := h.1.size
theorem Bel.trans {D : Nat} {a b c : World} (h : Bel D a b) (k : Bel D b c) : Bel D a c :=
  ⟨h.1.trans k.1, fun i hi hD => (k.2 i (Nat.lt_of_lt_of_le hi h.size) hD).trans (h.2 i hi hD)⟩
theorem Ext.bel {D : Nat} {w w' : World} (h : Ext w w') : Bel D w w' := ⟨Below.mono h (Nat.zero_le _), fun k hk _ => Below.block h k hk⟩
theorem heap_setCell_ne (w : World) (p : Addr) (u : Value) (k : Nat) (h : k ≠ p.block) : (w.setCell p u).heap[k]? = w.heap[k]? := Below.heap_setCell _ _ _ k h
theorem Bel.setCell {D : Nat} {a w : World} (h : Bel D a w) (i : Nat) (u : Value) : Bel D a (w.setCell ⟨D, i, none⟩ u) :=
  h.trans ⟨(Below.refl 0 w).setCell (Nat.zero_le _) u, fun k _ hD => heap_setCell_ne _ _ _ _ hD⟩
theorem cell_of_heap {w w' : World} {p : Addr} (h : w'.heap[p.block]? = w.heap[p.block]?) : w'.cell? p = w.cell? p := by
  unfold World.cell?; rw [h]
theorem Bel.cell {D : Nat} {w w' : World} (h : Bel D w w') {p : Addr} {u : Value} (hp : w.cell? p = some u) (hne : p.block ≠ D) : w'.cell? p = some u :=
  (cell_of_heap (h.2 _ (World.block_lt_of_cell? w p hp) hne)).trans hp
theorem Bel.cel {D : Nat} {w w' : World} (h : Bel D w w') : Cel D w w' := ⟨h.size, fun _ _ hne hp => h.cell hp hne⟩
theorem Bel.heap {D : Nat} {w w' : World} (h : Bel D w w') {k : Nat} {o : Obj} (hk : w.heap[k]? = some o) (hne : k ≠ D) : w'.heap[k]? = some o :=
  (h.2 k (Array.getElem?_eq_some_iff.1 hk).1 hne).trans hk
theorem Ext.then_bel {D : Nat} {a w w' : World} (h : Ext a w) (hD : a.heap.size ≤ D) (k : Bel D w w') : Ext a w' := by
  obtain ⟨h1, h2, h3, h4, h5⟩ := h
  obtain ⟨⟨k1, k2, k3, k4, _⟩, k5⟩ := k
  refine ⟨?_, ?_, ?_, ?_, fun i hi => ?_⟩
  · exact k1.trans h1
  · exact k2.trans h2
  · exact k3.trans h3
  · exact Nat.le_trans h4 k4
  · exact (k5 i (by omega) (by omega)).trans (h5 i hi)
theorem Cel.setCell {D : Nat} (w : World) (i : Nat) (u : Value) : Cel D w (w.setCell ⟨D, i, none⟩ u) := ((Bel.refl D w).setCell i u).cel

end Go.Proofs.YtjnobdcbbboeeaaGreat

namespace Go.Proofs.YtjnobdcbbboeeaaGreat
open Go Go.RowKit
set_option linter.unusedVariables false
set_option linter.unusedSimpArgs false

def BelS (S : Nat → Prop) (w w' : World) : Prop := Below 0 w w' ∧ ∀ k, k < w.heap.size → ¬ S k → w'.heap[k]? = w.heap[k]?
theorem BelS.refl (S : Nat → Prop) (w : World) : BelS S w w := ⟨Below.refl _ _, fun _ _ _ => rfl⟩
theorem BelS.size {S : Nat → Prop} {w w' : World} (h : BelS S w w') : w.heap.size ≤ w'.heap.size := h.1.size
theorem BelS.trans {S : Nat → Prop} {a b c : World} (h : BelS S a b) (k : BelS S b c) : BelS S a c :=
  ⟨h.1.trans k.1, fun i hi hD => (k.2 i (Nat.lt_of_lt_of_le hi h.size) hD).trans (h.2 i hi hD)⟩
theorem BelS.mono {S S' : Nat → Prop} {w w' : World} (h : BelS S w w') (hs : ∀ k, k < w.heap.size → S k → S' k) : BelS S' w w' := ⟨h.1, fun k hk hn => h.2 k hk fun hS => hn (hs k hk hS)⟩
theorem Ext.belS {S : Nat → Prop} {w w' : World} (h : Ext w w') : BelS S w w' := ⟨Below.mono h (Nat.zero_le _), fun k hk _ => Below.block h k hk⟩
theorem Bel.belS {S : Nat → Prop} {D : Nat} {w w' : World} (h : Bel D w w') (hD : S D) : BelS S w w' := ⟨h.1, fun k hk hn => h.2 k hk (fun e => hn (by rw [e]; exact hD))⟩
theorem BelS.bel {S : Nat → Prop} {D : Nat} {w w' : World} (h : BelS S w w') (hD : ∀ k, k < w.heap.size → S k → k = D) : Bel D w w' := ⟨h.1, fun k hk hn => h.2 k hk (fun e => hn (hD k hk e))⟩
theorem BelS.ext {S : Nat → Prop} {w w' : World} (h : BelS S w w') (hS : ∀ k, k < w.heap.size → ¬ S k) : Ext w w' := by
  obtain ⟨⟨h1, h2, h3, h4, h5⟩, h6⟩ := h
  exact ⟨h1, h2, h3, h4, fun k hk => h6 k hk (hS k hk)⟩
theorem BelS.setCell {S : Nat → Prop} {a w : World} (h : BelS S a w) (p : Addr) (u : Value) (hp : S p.block) : BelS S a (w.setCell p u) :=
  h.trans ⟨(Below.refl 0 w).setCell (Nat.zero_le _) u, fun k _ hD => heap_setCell_ne _ _ _ _ (fun e => hD (by rw [e]; exact hp))⟩
theorem BelS.drewN {S : Nat → Prop} {a w : World} (h : BelS S a w) (n : Nat) : BelS S a (w.drewN n) := h.trans (Ext.belS (Ext.drewN (Ext.refl _) n))
theorem BelS.drew {S : Nat → Prop} {a w : World} (h : BelS S a w) : BelS S a w.drew := h.trans (Ext.belS (Ext.drew (Ext.refl _)))
theorem BelS.alloc {S : Nat → Prop} {a w : World} (h : BelS S a w) (o : Obj) : BelS S a (w.alloc o) := h.trans (Ext.belS (Ext.alloc (Ext.refl _) o))
theorem BelS.grown {S : Nat → Prop} {a w w' : World} {row : Option Nat} (h : BelS S a w) (hg : w.grownBy w' row) (hr : ∀ k, row = some k → S k) : BelS S a w' :=
  h.trans ⟨(Below.refl 0 w).grown hg (Nat.zero_le _) (fun _ _ => Nat.zero_le _), fun k hk hn => hg.block k hk (fun e => hn (hr k e.symm))⟩
theorem BelS.heap {S : Nat → Prop} {w w' : World} (h : BelS S w w') {k : Nat} {o : Obj} (hk : w.heap[k]? = some o) (hn : ¬ S k) : w'.heap[k]? = some o :=
  (h.2 k (Array.getElem?_eq_some_iff.1 hk).1 hn).trans hk
theorem BelS.cell {S : Nat → Prop} {w w' : World} (h : BelS S w w') {p : Addr} {u : Value} (hp : w.cell? p = some u) (hn : ¬ S p.block) : w'.cell? p = some u :=
  (cell_of_heap (h.2 _ (World.block_lt_of_cell? w p hp) hn)).trans hp
theorem BelS.rd {S : Nat → Prop} {w w' : World} (h : BelS S w w') {A : Option Addr} {xs : List Value} (hA : Rd w A xs) (hn : ∀ a, A = some a → ¬ S a.block) : Rd w' A xs := by
  rcases hA with hA | ⟨b, off, rfl, hc⟩
  · exact .inl hA
  · exact .inr ⟨b, off, rfl, fun j u hu => h.cell (hc j u hu) (hn ⟨b, off, none⟩ rfl)⟩
theorem BelS.own {S : Nat → Prop} {w w' : World} (hb : BelS S w w') {base e size n : Nat} {v : Value} {xs : List Value} (h : w.ownsRow base e size v n xs) (hn : ∀ g, v.ownBlock = some g → ¬ S g) : w'.ownsRow base e size v n xs := by
  refine ⟨h.1, ?_⟩
  rcases h.2 with h | ⟨g, cap, cur, rfl, h1, h2, h3⟩
  · exact .inl h
  · exact .inr ⟨g, cap, cur, rfl, h1, hb.heap h2 (hn g rfl), h3⟩
theorem Bel.rd {D : Nat} {w w' : World} (h : Bel D w w') {A : Option Addr} {xs : List Value} (hA : Rd w A xs) (hn : ∀ a, A = some a → a.block ≠ D) : Rd w' A xs := (h.belS (S := fun k => k = D) rfl).rd hA hn
theorem Bel.own {D : Nat} {w w' : World} (hb : Bel D w w') {base e size n : Nat} {v : Value} {xs : List Value} (h : w.ownsRow base e size v n xs) (hn : ∀ g, v.ownBlock = some g → g ≠ D) : w'.ownsRow base e size v n xs := (hb.belS (S := fun k => k = D) rfl).own h hn
theorem Bel.setNew {D : Nat} {a w : World} (h : Bel D a w) (p : Addr) (u : Value) (hp : a.heap.size ≤ p.block) : Bel D a (w.setCell p u) :=
  ⟨h.1.trans ((Below.refl 0 w).setCell (Nat.zero_le _) u), fun k hk hD => (heap_setCell_ne _ _ _ _ (by omega)).trans (h.2 k hk hD)⟩
theorem Bel.drew {D : Nat} {a w : World} (h : Bel D a w) : Bel D a w.drew := h.trans (Ext.bel (Ext.drew (Ext.refl _)))
theorem Bel.then_ {S : Nat → Prop} {D : Nat} {a b c : World} (h : Bel D a b) (k : BelS S b c) (hS : ∀ i, i < a.heap.size → S i → i = D) : Bel D a c :=
  ⟨h.1.trans k.1, fun i hi hD => (k.2 i (Nat.lt_of_lt_of_le hi h.size) (fun e => hD (hS i hi e))).trans (h.2 i hi hD)⟩
theorem BelS.then_ {S S' : Nat → Prop} {a b c : World} (h : BelS S' a b) (k : BelS S b c) (hS : ∀ i, i < a.heap.size → S i → S' i) : BelS S' a c :=
  ⟨h.1.trans k.1, fun i hi hD => (k.2 i (Nat.lt_of_lt_of_le hi h.size) (fun e => hD (hS i hi e))).trans (h.2 i hi hD)⟩
end Go.Proofs.YtjnobdcbbboeeaaGreat

namespace Go.Proofs.YtjnobdcbbboeeaaGreat
open Go Go.RowKit
set_option linter.unusedVariables false
set_option linter.unusedSimpArgs false

theorem wp_append_rd2 {P : Program} (w : World) {o : Oper} {a : Act} {K : Act → World → Prop} {Q : Exit → Act → World → Prop} (s x : Operand) (t : TypeId)
    (ho : o.op = .call { callee := .builtin .append, args := #[s, x], argTypes := #[t, t] }) {e : TypeId} {size bytes : Nat} (E : ElemOK P t e size bytes) (base : Nat)
    (v : Value) (n : Nat) (xs : List Value) (hs : a.eval s = v) (hown : w.ownsRow base e size v n xs) (A : Option Addr) (m c : Nat) (news : List Value) (hx : a.eval x = .slice A m c)
    (hl : news.length = m * size) (hr : Rd w A news) (h1 : ∀ u ∈ news, u.oneCell' = true) (hbytes : (n + m) * bytes ≤ 140737488355328) (hbase : base ≤ w.heap.size)
    (h : ∀ A' c' w', w'.ownsRow base e size (.slice A' (n + m) c') (n + m) (xs ++ news) → Below base w w' → w.grownBy w' v.ownBlock → ((Value.slice A' (n + m) c').ownBlock = v.ownBlock ∨ (Value.slice A' (n + m) c').ownBlock = some w.heap.size) → K (a.put o.dst (.slice A' (n + m) c')) w') : o.wp P a w K Q := by
  obtain ⟨v', w', hrun, h2, h3, h4, h5⟩ := run_append_rd (P := P) w t o.type e size bytes E base v n xs hown A m c news hl hr h1 hbytes hbase
  obtain ⟨A', c', rfl⟩ := own_slice h2
  unfold Oper.wp execOp
  simp only [ho, resolve, invoke, builtin, Sem.run_bind, Sem.run_pure, Result.andThen_ok, List.map_toArray, List.map_cons, List.map_nil, hs, hx, hrun]
  have hB : Below base w w' := (Below.refl base w).grown h3 hbase (fun k hk => (hown.lt k hk).1)
  exact h A' c' w' h2 hB h3 h5
theorem wpList_append_rd2 {P : Program} (w : World) {ops : Array Oper} {rest : List Oper} {o : Oper} {a : Act} {Q : Exit → Act → World → Prop} (hgd : o.guard = none) (s x : Operand) (t : TypeId)
    (ho : o.op = .call { callee := .builtin .append, args := #[s, x], argTypes := #[t, t] }) {e : TypeId} {size bytes : Nat} (E : ElemOK P t e size bytes) (base : Nat)
    (v : Value) (n : Nat) (xs : List Value) (hs : a.eval s = v) (hown : w.ownsRow base e size v n xs) (A : Option Addr) (m c : Nat) (news : List Value) (hx : a.eval x = .slice A m c)
    (hl : news.length = m * size) (hr : Rd w A news) (h1 : ∀ u ∈ news, u.oneCell' = true) (hbytes : (n + m) * bytes ≤ 140737488355328) (hbase : base ≤ w.heap.size)
    (h : ∀ A' c' w', w'.ownsRow base e size (.slice A' (n + m) c') (n + m) (xs ++ news) → Below base w w' → w.grownBy w' v.ownBlock → ((Value.slice A' (n + m) c').ownBlock = v.ownBlock ∨ (Value.slice A' (n + m) c').ownBlock = some w.heap.size) → wpList P ops Q rest (a.put o.dst (.slice A' (n + m) c')) w') : wpList P ops Q (o :: rest) a w :=
  wpList_plain hgd fun _ hK => wp_append_rd2 w s x t ho E base v n xs hs hown A m c news hx hl hr h1 hbytes hbase fun A' c' w' h2 h3 h4 h5 => hK _ _ (h A' c' w' h2 h3 h4 h5)

theorem own_block_lt {w : World} {base e size n : Nat} {A : Option Addr} {c : Nat} {xs : List Value} (h : w.ownsRow base e size (.slice A n c) n xs) : ∀ a, A = some a → base ≤ a.block ∧ a.block < w.heap.size := by
  intro a ha
  subst ha
  exact h.lt a.block rfl
theorem slice_own {A : Option Addr} {n c g : Nat} (h : (Value.slice A n c).ownBlock = some g) : ∃ a, A = some a ∧ a.block = g := by
  cases A with
  | none => cases h
  | some a => exact ⟨a, rfl, by simpa [Value.ownBlock] using h⟩
end Go.Proofs.YtjnobdcbbboeeaaGreat

namespace Go.Proofs.YtjnobdcbbboeeaaGreat
open Go
set_option linter.unusedVariables false
set_option linter.unusedSimpArgs false

section
variable {P : Program} {ops : Array Oper} {md : Region.Mode} {E : World → World → Prop} {C : World → Prop} {T : Nat → Option (Value → World → Prop)}

/-- What an operation, carried out in w, may come to: a value of which R holds, in a world that E leads to. -/
def opensUpon (P : Program) (E : World → World → Prop) (w : World) (R : Value → World → Prop) : Result Next → Prop
  | .ok (.value u) w' => E w w' ∧ R u w'
  | .ok .skip w' => E w w' ∧ R undef w'
  | .ok (.enter f args) w' => Calls P f args w' (fun e w'' => ∃ v, e = .returned v ∧ E w w'' ∧ R v w'')
  | _ => False
def opens (P : Program) (E : World → World → Prop) (o : Oper) (a : Act) (D : World → Prop) (R : Value → World → Prop) : Prop :=
  ∀ w, D w → opensUpon P E w R ((execOp a.eval o).run P w)

theorem opens_mono {o : Oper} {a : Act} {D D' : World → Prop} {R R' : Value → World → Prop} (h : opens P E o a D R) (hD : ∀ w, D' w → D w) (hR : ∀ v w, R v w → R' v w) : opens P E o a D' R' := by
  intro w hw
  have := h w (hD w hw)
  generalize (execOp a.eval o).run P w = r at *
  cases r with
  | ok n w' =>
    cases n <;> simp only [opensUpon] at this ⊢
    case value => exact ⟨this.1, hR _ _ this.2⟩
    case skip => exact ⟨this.1, hR _ _ this.2⟩
    case enter f args => exact this.mono fun e w'' ⟨v, he, h1, h2⟩ => ⟨v, he, h1, hR _ _ h2⟩
  | halt x w' => simp only [opensUpon] at this

/-- There is such a value. -/
theorem opens_some {o : Oper} {a : Act} {D : World → Prop} {R : Value → World → Prop} (h : opens P E o a D R) {w : World} (hw : D w) : ∃ v w', E w w' ∧ R v w' := by
  have := h w hw
  generalize (execOp a.eval o).run P w = r at *
  cases r with
  | ok n w' =>
    cases n <;> simp only [opensUpon] at this
    case value u => exact ⟨u, w', this⟩
    case skip => exact ⟨undef, w', this⟩
    case enter f args =>
      obtain ⟨e, w'', _, ⟨v, _, h1, h2⟩, _⟩ := this []
      exact ⟨v, w'', h1, h2⟩
  | halt x w' => simp only [opensUpon] at this

theorem wp_of_opens {o : Oper} {a : Act} {D : World → Prop} {R : Value → World → Prop} {K' : Act → World → Prop} {Q' : Exit → Act → World → Prop} {w : World} (h : opens P E o a D R) (hw : D w)
    (hK : ∀ v w', E w w' → R v w' → K' (a.put o.dst v) w') : o.wp P a w K' Q' := by
  have := h w hw
  unfold Oper.wp
  generalize (execOp a.eval o).run P w = r at *
  cases r with
  | ok n w' =>
    cases n <;> simp only [opensUpon] at this <;> simp only [Oper.upon]
    case value u => exact hK _ _ this.1 this.2
    case skip => exact hK _ _ this.1 this.2
    case enter f args => exact this.mono fun e w'' ⟨v, he, h1, h2⟩ => by subst he; exact hK _ _ h1 h2
  | halt x w' => simp only [opensUpon] at this

/-- No call, and one value in every world of the class. -/
def still1 (P : Program) (E : World → World → Prop) (o : Oper) (a : Act) (D : World → Prop) (u : Value) : Prop :=
  ∀ w, D w → match (execOp a.eval o).run P w with
    | .ok (.value u') w' => E w w' ∧ u' = u
    | .ok .skip w' => E w w' ∧ u = undef
    | _ => False
theorem still1.opens {o : Oper} {a : Act} {D : World → Prop} {u : Value} (h : still1 P E o a D u) : opens P E o a D (fun v _ => v = u) := by
  intro w hw
  have := h w hw
  generalize (execOp a.eval o).run P w = r at *
  cases r with
  | ok n w' =>
    cases n <;> simp only [opensUpon] at this ⊢
    case value => exact this
    case skip => exact ⟨this.1, this.2.symm⟩
  | halt x w' => exact this.elim
theorem still1.uniq {o : Oper} {a : Act} {D : World → Prop} {u u' : Value} (h : still1 P E o a D u) (h' : still1 P E o a D u') {w : World} (hw : D w) : u = u' := by
  have h1 := h w hw
  have h2 := h' w hw
  generalize (execOp a.eval o).run P w = r at *
  cases r with
  | ok n w' =>
    cases n <;> simp only at h1 h2
    case value => exact h1.2.symm.trans h2.2
    case skip => exact h1.2.trans h2.2.symm
  | halt x w' => exact h1.elim

/-- What is known of the worlds behind each operation. -/
abbrev Facts := Nat → World → Prop
def Facts.set (F : Facts) (i : Nat) (φ : World → Prop) : Facts := fun k => if k = i then φ else F k
theorem Facts.set_same (F : Facts) (i : Nat) (φ : World → Prop) : F.set i φ i = φ := by simp [Facts.set]
theorem Facts.set_ne (F : Facts) {i k : Nat} (φ : World → Prop) (h : k ≠ i) : F.set i φ k = F k := by simp [Facts.set, h]
theorem Facts.set_comm (F : Facts) {i j : Nat} (φ ψ : World → Prop) (h : i ≠ j) : (F.set i φ).set j ψ = (F.set j ψ).set i φ := by
  funext k
  unfold Facts.set
  by_cases h1 : k = j <;> by_cases h2 : k = i
  · exact absurd (h2.symm.trans h1) h
  · simp [h1]
    intro h3
    exact absurd h3.symm h
  · simp [h2, h]
  · simp [h1, h2]

/-- What an operation may lean on: the base, and what is known behind the operations that it waits for. -/
def depC (md : Region.Mode) (C : World → Prop) (o : Oper) (F : Facts) : World → Prop := fun w => C w ∧ ∀ e ∈ o.after, Region.binds md e = true → F e.on w
theorem depC.get {o : Oper} {F : Facts} {w : World} (h : depC md C o F w) (n : Nat) (hn : (o.after.any fun e => Region.binds md e && e.on == n) = true) : F n w := by
  obtain ⟨e, he, hb⟩ := Array.any_eq_true'.1 hn
  simp only [Bool.and_eq_true, beq_iff_eq] at hb
  have := h.2 e he hb.1
  rwa [hb.2] at this
theorem depC_set {o : Oper} {F : Facts} {i : Nat} {φ : World → Prop} (h : ∀ e ∈ o.after, Region.binds md e = true → e.on ≠ i) : depC md C o (F.set i φ) = depC md C o F := by
  funext w
  refine propext ⟨fun ⟨h1, h2⟩ => ⟨h1, fun e he hb => ?_⟩, fun ⟨h1, h2⟩ => ⟨h1, fun e he hb => ?_⟩⟩
  · have := h2 e he hb; rwa [Facts.set_ne F φ (h e he hb)] at this
  · rw [Facts.set_ne F φ (h e he hb)]; exact h2 e he hb

def Up (E : World → World → Prop) (φ : World → Prop) : Prop := ∀ w w', φ w → E w w' → φ w'
theorem depC_up {o : Oper} {F : Facts} (hC : Up E C) (hF : ∀ k, Up E (F k)) : Up E (depC md C o F) := fun w w' h he => ⟨hC w w' h.1 he, fun e h1 h2 => hF e.on w w' (h.2 e h1 h2) he⟩
theorem set_up {F : Facts} {i : Nat} {φ : World → Prop} (hF : ∀ k, Up E (F k)) (hφ : Up E φ) : ∀ k, Up E (F.set i φ k) := by
  intro k
  unfold Facts.set
  split
  · exact hφ
  · exact hF k

/-- One operation that is carried out. -/
def actM (P : Program) (md : Region.Mode) (E : World → World → Prop) (C : World → Prop) (t : Option (Value → World → Prop)) (o : Oper) (a : Act) (F : Facts) (K : Value → (World → Prop) → Prop) : Prop :=
  match t with
  | none => ∃ u, still1 P E o a (depC md C o F) u ∧ K u (depC md C o F)
  | some R => opens P E o a (depC md C o F) R ∧ ∀ v, (∃ w, C w ∧ (∀ k, F k w) ∧ R v w) → K v (fun w => depC md C o F w ∧ R v w)

/-- Operation number i comes up. -/
def opM (P : Program) (md : Region.Mode) (ops : Array Oper) (E : World → World → Prop) (C : World → Prop) (T : Nat → Option (Value → World → Prop)) (i : Nat) (K : Act → Facts → Prop) (a : Act) (F : Facts) : Prop :=
  match ops[i]? with
  | none => K a F
  | some o => if Region.wanted o (yielded ops a.tmps) then actM P md E C (T i) o a F fun v φ => K (a.put o.dst v) (F.set i φ) else K (a.put o.dst undef) F

/-- The walk of the text's order. -/
def wpM (P : Program) (md : Region.Mode) (ops : Array Oper) (E : World → World → Prop) (C : World → Prop) (T : Nat → Option (Value → World → Prop)) (Q : Act → Facts → Prop) : List Oper → Nat → Act → Facts → Prop
  | [], _, a, F => Q a F
  | o :: rest, k, a, F => if Region.wanted o (yielded ops a.tmps) then actM P md E C (T k) o a F fun v φ => wpM P md ops E C T Q rest (k + 1) (a.put o.dst v) (F.set k φ) else wpM P md ops E C T Q rest (k + 1) (a.put o.dst undef) F

/-- Whatever order is picked, as long as operations below n are left. -/
def wpAnyM (P : Program) (md : Region.Mode) (ops : Array Oper) (E : World → World → Prop) (C : World → Prop) (T : Nat → Option (Value → World → Prop)) (n : Nat) (L : Array Bool → Act → Facts → Prop) : Nat → Array Bool → Act → Facts → Prop
  | 0, listed, a, F => L listed a F
  | f + 1, listed, a, F => Region.ready md ops listed ≠ [] ∧ ∀ i ∈ Region.ready md ops listed, i < n ∧ opM P md ops E C T i (wpAnyM P md ops E C T n L f (listed.setIfInBounds i true)) a F

theorem actM_mono {t : Option (Value → World → Prop)} {o : Oper} {a : Act} {F : Facts} {K K' : Value → (World → Prop) → Prop} (h : actM P md E C t o a F K)
    (hK : ∀ v φ, K v φ → K' v φ) : actM P md E C t o a F K' := by
  cases t with
  | none => obtain ⟨u, h1, h2⟩ := h; exact ⟨u, h1, hK _ _ h2⟩
  | some R => exact ⟨h.1, fun v hv => hK _ _ (h.2 v hv)⟩

theorem wpAny_of_M {n g : Nat} {L : Array Bool → Act → Facts → Prop} {Q' : Exit → Act → World → Prop} (hC : Up E C) (hT : ∀ i R, T i = some R → ∀ v, Up E (R v))
    (hL : ∀ listed a F w, L listed a F → C w → (∀ k, F k w) → wpAny P md ops Q' g listed a w) :
    ∀ (f : Nat) (listed : Array Bool) (a : Act) (F : Facts) (w : World), (∀ k, Up E (F k)) → C w → (∀ k, F k w) → wpAnyM P md ops E C T n L f listed a F → wpAny P md ops Q' (f + g) listed a w
  | 0, listed, a, F, w, _, hw, hFw, h => by rw [Nat.zero_add]; exact hL _ _ _ _ h hw hFw
  | f + 1, listed, a, F, w, hF, hw, hFw, h => by
    rw [show f + 1 + g = (f + g) + 1 by omega]
    refine ⟨fun h0 => absurd h0 h.1, fun i hi => ?_⟩
    obtain ⟨_, hop⟩ := h.2 i hi
    unfold opM at hop
    unfold wpOp
    split
    · rename_i ho
      simp only [ho] at hop
      exact wpAny_of_M hC hT hL f _ _ _ _ hF hw hFw hop
    · rename_i o ho
      simp only [ho] at hop
      split
      · rename_i hwt
        simp only [hwt, if_true] at hop
        refine .inl ?_
        have hD : depC md C o F w := ⟨hw, fun e _ _ => hFw e.on⟩
        have hDu := depC_up (md := md) (o := o) hC hF
        generalize ht : T i = t at hop
        cases t with
        | none =>
          obtain ⟨u, h1, h2⟩ := hop
          refine wp_of_opens h1.opens hD fun v w' he hv => ?_
          subst hv
          refine wpAny_of_M hC hT hL f _ _ _ _ (set_up hF hDu) (hC _ _ hw he) (fun k => ?_) h2
          unfold Facts.set
          split
          · exact hDu _ _ hD he
          · exact hF k _ _ (hFw k) he
        | some R =>
          obtain ⟨h1, h2⟩ := hop
          refine wp_of_opens h1 hD fun v w' he hv => ?_
          have hFw' : ∀ k, F k w' := fun k => hF k _ _ (hFw k) he
          refine wpAny_of_M hC hT hL f _ _ _ _ (set_up hF fun x y hx hxy => ⟨hDu _ _ hx.1 hxy, hT i R ht v _ _ hx.2 hxy⟩) (hC _ _ hw he) (fun k => ?_) (h2 v ⟨w', hC _ _ hw he, hFw', hv⟩)
          unfold Facts.set
          split
          · exact ⟨hDu _ _ hD he, hv⟩
          · exact hFw' k
      · rename_i hwt
        simp only [hwt] at hop
        exact wpAny_of_M hC hT hL f _ _ _ _ hF hw hFw hop

theorem opM_put {i j : Nat} {oi oj : Oper} {v : Value} {φ : World → Prop} (hj : ops[j]? = some oj) (hij : i ≠ j) (hap : oi.apart ops oj = true) (hno : ∀ e ∈ oj.after, Region.binds md e = true → e.on ≠ i)
    (hsj : ∀ cs b, oj.op ≠ .select cs b) {K : Act → Facts → Prop} {a : Act} {F : Facts} (h : opM P md ops E C T j K (a.put oi.dst v) (F.set i φ)) :
    (Region.wanted oj (yielded ops a.tmps) = true ∧ match T j with
      | none => ∃ u, still1 P E oj a (depC md C oj F) u ∧ K ((a.put oj.dst u).put oi.dst v) ((F.set j (depC md C oj F)).set i φ)
      | some R => opens P E oj a (depC md C oj F) R ∧ ∀ u, (∃ w, C w ∧ (∀ k, (F.set i φ) k w) ∧ R u w) → K ((a.put oj.dst u).put oi.dst v) ((F.set j (fun w => depC md C oj F w ∧ R u w)).set i φ)) ∨
    (Region.wanted oj (yielded ops a.tmps) = false ∧ K ((a.put oj.dst undef).put oi.dst v) (F.set i φ)) := by
  obtain ⟨h1, h2, h3⟩ := Oper.apart_spec hap
  have hex : execOp (a.put oi.dst v).eval oj = execOp a.eval oj := execOp_put oj hsj a oi.dst v h1
  unfold opM at h
  simp only [hj] at h
  rw [wanted_put oj a oi.dst v h1] at h
  by_cases hw : Region.wanted oj (yielded ops a.tmps) = true
  · refine .inl ⟨hw, ?_⟩
    simp only [hw, if_true] at h
    unfold actM at h
    rw [depC_set hno] at h
    split at h
    · obtain ⟨u, hu, hk⟩ := h
      refine ⟨u, ?_, ?_⟩
      · unfold still1 at hu ⊢; rwa [hex] at hu
      · rw [← Act.put_comm a v u h2, Facts.set_comm F _ _ (Ne.symm hij)]; exact hk
    · obtain ⟨hu, hk⟩ := h
      refine ⟨?_, fun u hw' => ?_⟩
      · unfold opens at hu ⊢; rwa [hex] at hu
      · rw [← Act.put_comm a v u h2, Facts.set_comm F _ _ (Ne.symm hij)]; exact hk u hw'
  · refine .inr ⟨by simpa using hw, ?_⟩
    simp only [hw] at h
    rw [← Act.put_comm a v undef h2]; exact h

/-- **An operation that may come up now may be taken first.** -/
theorem wpAnyM_first {n i : Nat} {I : Array Bool → Prop} (hI : ∀ listed i, I listed → i ∈ Region.ready md ops listed → i < n → I (listed.setIfInBounds i true)) {oi : Oper} {L : Array Bool → Act → Facts → Prop} (hC : Up E C) (hT : ∀ i R, T i = some R → ∀ v, Up E (R v)) (hi : ops[i]? = some oi)
    (hsel : ∀ (j : Nat) (o : Oper) cs b, ops[j]? = some o → o.op ≠ .select cs b)
    (hbd : ∀ listed, I listed → ∀ i, i < n → listed.getD i true = false → ∀ t, n ≤ t → t ∉ Region.ready md ops listed) (hin : i < n)
    (hdone : ∀ listed a F, L listed a F → ∀ j ∈ Region.ready md ops listed, n ≤ j) :
    ∀ (f : Nat) (listed : Array Bool) (a : Act) (F : Facts), (∀ k, Up E (F k)) → (∃ w, C w ∧ ∀ k, F k w) → (∀ k, listed.getD k true = false → ∀ w, F k w) → I listed →
      (∀ j oj, ops[j]? = some oj → j ≠ i → listed.getD j true = false → (∀ e ∈ oj.after, Region.binds md e = true → e.on ≠ i) → oi.apart ops oj = true) →
      i ∈ Region.ready md ops listed → opM P md ops E C T i (wpAnyM P md ops E C T n L f (listed.setIfInBounds i true)) a F → wpAnyM P md ops E C T n L (f + 1) listed a F := by
  intro f
  induction f with
  | zero =>
    intro listed a F hF hex _ inv hfree hr H
    have hun := (mem_ready.1 hr).1
    refine ⟨fun h => (by rw [h] at hr; cases hr), fun j hj => ?_⟩
    have hjn : j < n := by
      rcases Nat.lt_or_ge j n with h | h
      · exact h
      · exact absurd hj (hbd _ inv i hin hun j h)
    refine ⟨hjn, ?_⟩
    by_cases hji : j = i
    · subst hji; exact H
    · -- a value of i's shows that nothing below n is left
      exfalso
      have : ∃ a' F', wpAnyM P md ops E C T n L 0 (listed.setIfInBounds i true) a' F' := by
        unfold opM at H
        simp only [hi] at H
        split at H
        · obtain ⟨w, hw, hFw⟩ := hex
          unfold actM at H
          split at H
          · obtain ⟨u, _, h2⟩ := H; exact ⟨_, _, h2⟩
          · obtain ⟨h1, h2⟩ := H
            obtain ⟨v, w', he, hv⟩ := opens_some h1 (w := w) ⟨hw, fun e _ _ => hFw e.on⟩
            exact ⟨_, _, h2 v ⟨w', hC _ _ hw he, fun k => hF k _ _ (hFw k) he, hv⟩⟩
        · exact ⟨_, _, H⟩
      obtain ⟨a', F', hL⟩ := this
      have := hdone _ _ _ hL j (ready_mono hj hji)
      omega
  | succ f ih =>
    intro listed a F hF hex hF0 inv hfree hr H
    have hun := (mem_ready.1 hr).1
    refine ⟨fun h => (by rw [h] at hr; cases hr), fun j hj => ?_⟩
    have hjn : j < n := by
      rcases Nat.lt_or_ge j n with h | h
      · exact h
      · exact absurd hj (hbd _ inv i hin hun j h)
    refine ⟨hjn, ?_⟩
    by_cases hji : j = i
    · subst hji; exact H
    · obtain ⟨hjun, oj, hoj, hall⟩ := mem_ready.1 hj
      have hnot : ∀ e ∈ oj.after, Region.binds md e = true → e.on ≠ i := fun e he hb heq => by
        have h1 := hall e he hb
        rw [heq] at h1
        rw [getD_both hun] at h1
        cases h1
      have hap := hfree j oj hoj hji hjun hnot
      obtain ⟨p1, p2, p3⟩ := Oper.apart_spec hap
      have hsj := fun cs b => hsel j oj cs b hoj
      have hsi := fun cs b => hsel i oi cs b hi
      have inv' := hI _ _ inv hj hjn
      have hfree' : ∀ k ok, ops[k]? = some ok → k ≠ i → (listed.setIfInBounds j true).getD k true = false →
          (∀ e ∈ ok.after, Region.binds md e = true → e.on ≠ i) → oi.apart ops ok = true := fun k ok hk hki hun2 hno => by
        refine hfree k ok hk hki ?_ hno
        by_cases hjk : j = k
        · subst hjk; exact hjun
        · rw [getD_set_ne true hjk] at hun2; exact hun2
      have hri := ready_mono hr (Ne.symm hji)
      have hDu := depC_up (md := md) (o := oj) hC hF
      have hIu := depC_up (md := md) (o := oi) hC hF
      -- what i is at a state in which j has been carried out already
      have hii : ∀ u, execOp (a.put oj.dst u).eval oi = execOp a.eval oi := fun u => execOp_put oi hsi a oj.dst u p3
      have hwi : ∀ u, Region.wanted oi (yielded ops (a.put oj.dst u).tmps) = Region.wanted oi (yielded ops a.tmps) := fun u => wanted_put oi a oj.dst u p3
      -- i does not wait for j: j has not been listed
      have hnoi : ∀ e ∈ oi.after, Region.binds md e = true → e.on ≠ j := fun e he hb heq => by
        obtain ⟨_, o', ho', hall'⟩ := mem_ready.1 hr
        have : o' = oi := Option.some.inj (ho'.symm.trans hi)
        subst this
        have h1 := hall' e he hb
        rw [heq, getD_both hjun] at h1
        cases h1
      have hcomm : (listed.setIfInBounds i true).setIfInBounds j true = (listed.setIfInBounds j true).setIfInBounds i true := Array.setIfInBounds_comm _ _ (Ne.symm hji)
      -- what is not yet listed is not yet known
      have hjlt : j < listed.size := by
        rcases Nat.lt_or_ge j listed.size with h | h
        · exact h
        · simp [Array.getElem?_eq_none h] at hjun
      have hF0' : ∀ φ k, (listed.setIfInBounds j true).getD k true = false → ∀ w, F.set j φ k w := fun φ k hk w => by
        have hkj : j ≠ k := by
          rintro rfl
          simp [hjlt] at hk
        rw [getD_set_ne true hkj] at hk
        rw [Facts.set_ne F φ (Ne.symm hkj)]
        exact hF0 k hk w
      have hF0u : ∀ k, (listed.setIfInBounds j true).getD k true = false → ∀ w, F k w := fun k hk w => by
        have hkj : j ≠ k := by
          rintro rfl
          simp [hjlt] at hk
        rw [getD_set_ne true hkj] at hk
        exact hF0 k hk w
      have unset : ∀ φ w, (∀ k, F.set j φ k w) → ∀ k, F k w := fun φ w h k => by
        by_cases hkj : k = j
        · subst hkj; exact hF0 _ hjun w
        · have := h k; rwa [Facts.set_ne F φ hkj] at this
      have joint : ∀ (φ : World → Prop) w, (∀ k, F k w) → φ w → ∀ k, F.set j φ k w := fun φ w h hφ k => by
        unfold Facts.set
        split
        · exact hφ
        · exact h k
      have jointi : ∀ (φ : World → Prop) w, (∀ k, F k w) → φ w → ∀ k, F.set i φ k w := fun φ w h hφ k => by
        unfold Facts.set
        split
        · exact hφ
        · exact h k
      -- what H says at a value (and a fact) of i's
      have atv : ∀ v φ, wpAnyM P md ops E C T n L (f + 1) (listed.setIfInBounds i true) (a.put oi.dst v) (F.set i φ) →
          opM P md ops E C T j (fun a' F' => wpAnyM P md ops E C T n L f ((listed.setIfInBounds j true).setIfInBounds i true) a' F') (a.put oi.dst v) (F.set i φ) := fun v φ h => by
        have := (h.2 j (ready_mono hj hji)).2
        rw [hcomm] at this
        exact this
      unfold opM
      simp only [hoj]
      unfold opM at H
      simp only [hi] at H
      by_cases hwti : Region.wanted oi (yielded ops a.tmps) = true
      · simp only [hwti, if_true] at H
        cases hti : T i with
        | none =>
          rw [hti] at H
          obtain ⟨u, hu, hk⟩ := H
          have hui : ∀ x, still1 P E oi (a.put oj.dst x) (depC md C oi F) u := fun x => by unfold still1 at hu ⊢; rw [hii]; exact hu
          have hj1 := opM_put (φ := depC md C oi F) hoj (Ne.symm hji) hap hnot hsj (atv u _ hk)
          rcases hj1 with ⟨hwj, hj1⟩ | ⟨hwj, hj1⟩
          · simp only [hwj, if_true]
            unfold actM
            cases htj : T j with
            | none =>
              rw [htj] at hj1
              obtain ⟨uj, h1, h2⟩ := hj1
              refine ⟨uj, h1, ih _ _ _ (set_up hF hDu) ?_ (hF0' _) inv' hfree' hri ?_⟩
              · obtain ⟨w, hw, hFw⟩ := hex
                exact ⟨w, hw, joint _ w hFw ⟨hw, fun e _ _ => hFw e.on⟩⟩
              · unfold opM
                simp only [hi, hwi, hwti, if_true, hti]
                refine ⟨u, ?_, ?_⟩
                · rw [depC_set hnoi]; exact hui _
                · rw [depC_set hnoi]; exact h2
            | some Rj =>
              rw [htj] at hj1
              obtain ⟨h1, h2⟩ := hj1
              refine ⟨h1, fun uj hex' => ih _ _ _ (set_up hF fun x y hx hxy => ⟨hDu _ _ hx.1 hxy, hT j Rj htj uj _ _ hx.2 hxy⟩) ?_ (hF0' _) inv' hfree' hri ?_⟩
              · obtain ⟨w, hw, hFw, hRw⟩ := hex'
                exact ⟨w, hw, joint _ w hFw ⟨⟨hw, fun e _ _ => hFw e.on⟩, hRw⟩⟩
              · unfold opM
                simp only [hi, hwi, hwti, if_true, hti]
                refine ⟨u, ?_, ?_⟩
                · rw [depC_set hnoi]; exact hui _
                · rw [depC_set hnoi]
                  refine h2 uj ?_
                  obtain ⟨w, hw, hFw, hRw⟩ := hex'
                  exact ⟨w, hw, jointi _ w hFw ⟨hw, fun e _ _ => hFw e.on⟩, hRw⟩
          · simp only [hwj]
            refine ih _ _ _ hF hex hF0u inv' hfree' hri ?_
            unfold opM
            simp only [hi, hwi, hwti, if_true, hti]
            exact ⟨u, hui _, hj1⟩
        | some Ri =>
          rw [hti] at H
          obtain ⟨hu, hk⟩ := H
          have hui : ∀ x, opens P E oi (a.put oj.dst x) (depC md C oi F) Ri := fun x => by unfold opens at hu ⊢; rw [hii]; exact hu
          obtain ⟨w0, hw0, hFw0⟩ := hex
          obtain ⟨v0, w0', he0, hv0⟩ := opens_some hu (w := w0) ⟨hw0, fun e _ _ => hFw0 e.on⟩
          have hx0 : ∃ w, C w ∧ (∀ k, F k w) ∧ Ri v0 w := ⟨w0', hC _ _ hw0 he0, fun k => hF k _ _ (hFw0 k) he0, hv0⟩
          have all := fun v hv => opM_put (φ := fun w => depC md C oi F w ∧ Ri v w) hoj (Ne.symm hji) hap hnot hsj (atv v _ (hk v hv))
          have h0 := all v0 hx0
          rcases h0 with ⟨hwj, h0⟩ | ⟨hwj, _⟩
          · simp only [hwj, if_true]
            unfold actM
            cases htj : T j with
            | none =>
              rw [htj] at h0
              obtain ⟨uj, h1, _⟩ := h0
              refine ⟨uj, h1, ih _ _ _ (set_up hF hDu) ⟨w0, hw0, joint _ w0 hFw0 ⟨hw0, fun e _ _ => hFw0 e.on⟩⟩ (hF0' _) inv' hfree' hri ?_⟩
              unfold opM
              simp only [hi, hwi, hwti, if_true, hti]
              refine ⟨by rw [depC_set hnoi]; exact hui _, fun v hv => ?_⟩
              rw [depC_set hnoi]
              obtain ⟨w, hw, hFw, hRw⟩ := hv
              have hFw' := unset _ w hFw
              rcases all v ⟨w, hw, hFw', hRw⟩ with ⟨_, h⟩ | ⟨hwj', _⟩
              · rw [htj] at h
                obtain ⟨uj', h1', h2'⟩ := h
                have : uj' = uj := h1'.uniq h1 (w := w) ⟨hw, fun e _ _ => hFw' e.on⟩
                subst this
                exact h2'
              · rw [hwj] at hwj'; cases hwj'
            | some Rj =>
              rw [htj] at h0
              obtain ⟨h1, _⟩ := h0
              refine ⟨h1, fun uj hex' => ?_⟩
              obtain ⟨w1, hw1, hFw1, hRw1⟩ := hex'
              refine ih _ _ _ (set_up hF fun x y hx hxy => ⟨hDu _ _ hx.1 hxy, hT j Rj htj uj _ _ hx.2 hxy⟩) ⟨w1, hw1, joint _ w1 hFw1 ⟨⟨hw1, fun e _ _ => hFw1 e.on⟩, hRw1⟩⟩ (hF0' _) inv' hfree' hri ?_
              unfold opM
              simp only [hi, hwi, hwti, if_true, hti]
              refine ⟨by rw [depC_set hnoi]; exact hui _, fun v hv => ?_⟩
              rw [depC_set hnoi]
              obtain ⟨w, hw, hFw, hRw⟩ := hv
              have hFw' := unset _ w hFw
              have hjw : depC md C oj F w ∧ Rj uj w := by have := hFw j; rwa [Facts.set_same] at this
              rcases all v ⟨w, hw, hFw', hRw⟩ with ⟨_, h⟩ | ⟨hwj', _⟩
              · rw [htj] at h
                exact h.2 uj ⟨w, hw, jointi _ w hFw' ⟨⟨hw, fun e _ _ => hFw' e.on⟩, hRw⟩, hjw.2⟩
              · rw [hwj] at hwj'; cases hwj'
          · simp only [hwj]
            refine ih _ _ _ hF ⟨w0, hw0, hFw0⟩ hF0u inv' hfree' hri ?_
            unfold opM
            simp only [hi, hwi, hwti, if_true, hti]
            refine ⟨hui _, fun v hv => ?_⟩
            rcases all v hv with ⟨hwj', _⟩ | ⟨_, h⟩
            · rw [hwj] at hwj'; cases hwj'
            · exact h
      · simp only [hwti] at H
        have hj1 := (H.2 j (ready_mono hj hji)).2
        rw [hcomm] at hj1
        have hj2 : opM P md ops E C T j (fun a' F' => wpAnyM P md ops E C T n L f ((listed.setIfInBounds j true).setIfInBounds i true) a' F') (a.put oi.dst undef) (F.set i (F i)) := by
          have : F.set i (F i) = F := by funext k; unfold Facts.set; split <;> simp_all
          rw [this]; exact hj1
        have hj3 := opM_put (φ := F i) hoj (Ne.symm hji) hap hnot hsj hj2
        have hset : ∀ φ, (F.set j φ).set i (F i) = F.set j φ := fun φ => by
          funext k; unfold Facts.set
          by_cases h1 : k = i
          · subst h1; simp; intro h2; exact absurd h2.symm hji
          · simp [h1]
        have hset0 : F.set i (F i) = F := by funext k; unfold Facts.set; split <;> simp_all
        rcases hj3 with ⟨hwj, h0⟩ | ⟨hwj, h0⟩
        · simp only [hwj, if_true]
          unfold actM
          cases htj : T j with
          | none =>
            rw [htj] at h0
            obtain ⟨uj, h1, h2⟩ := h0
            rw [hset] at h2
            refine ⟨uj, h1, ih _ _ _ (set_up hF hDu) ?_ (hF0' _) inv' hfree' hri ?_⟩
            · obtain ⟨w, hw, hFw⟩ := hex
              exact ⟨w, hw, joint _ w hFw ⟨hw, fun e _ _ => hFw e.on⟩⟩
            · unfold opM
              simp only [hi, hwi, hwti]
              exact h2
          | some Rj =>
            rw [htj] at h0
            obtain ⟨h1, h2⟩ := h0
            refine ⟨h1, fun uj hex' => ?_⟩
            obtain ⟨w1, hw1, hFw1, hRw1⟩ := hex'
            refine ih _ _ _ (set_up hF fun x y hx hxy => ⟨hDu _ _ hx.1 hxy, hT j Rj htj uj _ _ hx.2 hxy⟩) ⟨w1, hw1, joint _ w1 hFw1 ⟨⟨hw1, fun e _ _ => hFw1 e.on⟩, hRw1⟩⟩ (hF0' _) inv' hfree' hri ?_
            unfold opM
            simp only [hi, hwi, hwti]
            have := h2 uj ⟨w1, hw1, by rw [hset0]; exact hFw1, hRw1⟩
            rw [hset] at this
            exact this
        · simp only [hwj]
          rw [hset0] at h0
          refine ih _ _ _ hF hex hF0u inv' hfree' hri ?_
          unfold opM
          simp only [hi, hwi, hwti]
          exact h0

end
end Go.Proofs.YtjnobdcbbboeeaaGreat

namespace Go.Proofs.YtjnobdcbbboeeaaGreat
open Go Go.RowKit
set_option linter.unusedVariables false
set_option linter.unusedSimpArgs false

section
variable {P : Program} {ops : Array Oper} {md : Region.Mode} {E : World → World → Prop} {C : World → Prop} {T : Nat → Option (Value → World → Prop)}

def noFacts : Facts := fun _ _ => True

theorem opM_of_wpM {o : Oper} {l : List Oper} {k : Nat} {a : Act} {F : Facts} {Q : Act → Facts → Prop} (h0 : ops[k]? = some o) (h : wpM P md ops E C T Q (o :: l) k a F) :
    opM P md ops E C T k (fun a' F' => wpM P md ops E C T Q l (k + 1) a' F') a F := by
  unfold opM
  simp only [h0]
  exact h

/-- Behind opM, whatever follows. -/
theorem opM_mono {i : Nat} {a : Act} {F : Facts} {K K' : Act → Facts → Prop} (hC : Up E C) (hT : ∀ i R, T i = some R → ∀ v, Up E (R v)) (hF : ∀ k, Up E (F k)) (hex : ∃ w, C w ∧ ∀ k, F k w)
    (h : opM P md ops E C T i K a F)
    (hK : ∀ a' F', (∀ k, Up E (F' k)) → (∃ w, C w ∧ ∀ k, F' k w) → (∀ k, k ≠ i → F' k = F k) → K a' F' → K' a' F') : opM P md ops E C T i K' a F := by
  unfold opM at *
  split
  · rename_i ho
    simp only [ho] at h
    exact hK _ _ hF hex (fun _ _ => rfl) h
  · rename_i o ho
    simp only [ho] at h
    have hD := depC_up (md := md) (o := o) hC hF
    split
    · rename_i hw
      simp only [hw, if_true] at h
      unfold actM at *
      cases ht : T i with
      | none =>
        rw [ht] at h
        obtain ⟨u, h1, h2⟩ := h
        refine ⟨u, h1, hK _ _ (set_up hF hD) ?_ (fun k hk => Facts.set_ne F _ hk) h2⟩
        obtain ⟨w, hw, hFw⟩ := hex
        exact ⟨w, hw, fun k => by unfold Facts.set; split; exact ⟨hw, fun e _ _ => hFw e.on⟩; exact hFw k⟩
      | some R =>
        rw [ht] at h
        refine ⟨h.1, fun v hv => hK _ _ (set_up hF fun x y hx hxy => ⟨hD _ _ hx.1 hxy, hT i R ht v _ _ hx.2 hxy⟩) ?_ (fun k hk => Facts.set_ne F _ hk) (h.2 v hv)⟩
        obtain ⟨w, hw, hFw, hR⟩ := hv
        exact ⟨w, hw, fun k => by unfold Facts.set; split; exact ⟨⟨hw, fun e _ _ => hFw e.on⟩, hR⟩; exact hFw k⟩
    · rename_i hw
      simp only [hw] at h
      exact hK _ _ hF hex (fun _ _ => rfl) h

/-- lexHead with another test at its end. -/
def lexHeadF (md : Region.Mode) (ops : Array Oper) (fin : Array Bool → Bool) : Nat → Nat → Array Bool → Bool
  | 0, _, listed => fin listed
  | f + 1, k, listed => (Region.ready md ops listed).contains k && Region.free md ops listed k && lexHeadF md ops fin f (k + 1) (listed.setIfInBounds k true)
theorem lexHeadF_of {g : Nat} : ∀ (f k n : Nat) (listed : Array Bool), k + f = n → Region.lexHead md ops g f k listed = true → lexHeadF md ops (fun l => Region.seqB md ops g n l) f k listed = true
  | 0, k, n, listed, hk, h => by obtain rfl : k = n := by omega
                                 exact h
  | f + 1, k, n, listed, hk, h => by
    simp only [Region.lexHead, Bool.and_eq_true] at h
    simp only [lexHeadF, Bool.and_eq_true]
    exact ⟨h.1, lexHeadF_of f (k + 1) n _ (by omega) h.2⟩

theorem wpAnyM_lexI {n : Nat} {I : Array Bool → Prop} (hI : ∀ listed i, I listed → i ∈ Region.ready md ops listed → i < n → I (listed.setIfInBounds i true)) {fin : Array Bool → Bool} (hfin : ∀ listed, fin listed = true → ∀ j ∈ Region.ready md ops listed, n ≤ j)
    {Lq : Act → Facts → Prop} (hC : Up E C) (hT : ∀ i R, T i = some R → ∀ v, Up E (R v)) (hsel : Region.noSelect ops = true)
    (hbd : ∀ listed, I listed → ∀ i, i < n → listed.getD i true = false → ∀ t, n ≤ t → t ∉ Region.ready md ops listed) :
    ∀ (l : List Oper) (k : Nat) (listed : Array Bool) (a : Act) (F : Facts), (∀ j, j < l.length → l[j]? = ops[k + j]?) → k + l.length = n → (∀ k, Up E (F k)) → (∃ w, C w ∧ ∀ k, F k w) →
    (∀ k, listed.getD k true = false → ∀ w, F k w) → I listed → lexHeadF md ops fin l.length k listed = true → wpM P md ops E C T Lq l k a F →
    wpAnyM P md ops E C T n (fun listed' a' F' => fin listed' = true ∧ Lq a' F') l.length listed a F
  | [], k, listed, a, F, _, hk, _, _, _, _, hB, h => ⟨hB, h⟩
  | o :: l, k, listed, a, F, hl, hk, hF, hex, hF0, inv, hB, h => by
    have h0 : ops[k]? = some o := by simpa using (hl 0 (by simp)).symm
    simp only [List.length_cons, lexHeadF, Bool.and_eq_true] at hB
    obtain ⟨⟨hr, hf⟩, hB'⟩ := hB
    have hkn : k < n := by simp only [List.length_cons] at hk; omega
    have hr' : k ∈ Region.ready md ops listed := by simpa using hr
    have hklt : k < listed.size := by
      rcases Nat.lt_or_ge k listed.size with h | h
      · exact h
      · have := (mem_ready.1 hr').1; simp [Array.getElem?_eq_none h] at this
    refine wpAnyM_first hI hC hT h0 (Region.noSelect_spec hsel) hbd hkn (fun listed' a' F' hL => hfin _ hL.1) l.length listed a F hF hex hF0 inv (Region.free_spec h0 hf) hr' ?_
    refine opM_mono hC hT hF hex (opM_of_wpM h0 h) fun a' F' hF' hex' hne hw => ?_
    refine wpAnyM_lexI hI hfin hC hT hsel hbd l (k + 1) _ a' F' (fun j hj => by have := hl (j + 1) (by simp; omega); simpa [Nat.add_assoc, Nat.add_comm 1 j] using this) (by simp only [List.length_cons] at hk; omega) hF' hex' ?_ (hI _ _ inv hr' hkn) hB' hw
    intro i hi w
    have hki : k ≠ i := by
      rintro rfl
      simp [hklt] at hi
    rw [getD_set_ne true hki] at hi
    rw [hne i (Ne.symm hki)]
    exact hF0 i hi w
theorem wpAnyM_lex {n g : Nat} {Lq : Act → Facts → Prop} (hC : Up E C) (hT : ∀ i R, T i = some R → ∀ v, Up E (R v)) (hsel : Region.noSelect ops = true)
    (hbd : ∀ listed, HeadInv md ops n listed → ∀ i, i < n → listed.getD i true = false → ∀ t, n ≤ t → t ∉ Region.ready md ops listed)
    (l : List Oper) (k : Nat) (listed : Array Bool) (a : Act) (F : Facts) (hl : ∀ j, j < l.length → l[j]? = ops[k + j]?) (hk : k + l.length = n) (hF : ∀ k, Up E (F k)) (hex : ∃ w, C w ∧ ∀ k, F k w)
    (hF0 : ∀ k, listed.getD k true = false → ∀ w, F k w) (inv : HeadInv md ops n listed) (hB : Region.lexHead md ops g l.length k listed = true) (h : wpM P md ops E C T Lq l k a F) :
    wpAnyM P md ops E C T n (fun listed' a' F' => Region.seqB md ops g n listed' = true ∧ Lq a' F') l.length listed a F :=
  wpAnyM_lexI (fun _ _ inv hi hin => HeadInv.set inv hi hin) (fun _ h => seqB_ready h) hC hT hsel hbd l k listed a F hl hk hF hex hF0 inv (lexHeadF_of _ _ _ _ hk hB) h

/-- All operations but a tail in a forced order. -/
theorem wp_region_opens_tail {id : Nat} {Q : Exit → Act → World → Prop} {a : Act} {w : World} {l : List Oper} (E : World → World → Prop) (C : World → Prop) (T : Nat → Option (Value → World → Prop)) (n : Nat) (hm : P.follows .mixedOrders = true) (hB : Region.lexTailB .any l.toArray n = true)
    (hC : Up E C) (hT : ∀ i R, T i = some R → ∀ v, Up E (R v)) (hw : C w.drew)
    (h : wpM P .any l.toArray E C T (fun a' F' => ∀ w', C w' → (∀ k, F' k w') → wpList P l.toArray Q (l.drop n) a' w') (l.take n) 0 a noFacts) : (Code.region id l.toArray true).wp P Q a w := by
  simp only [Region.lexTailB, Bool.and_eq_true, decide_eq_true_eq] at hB
  obtain ⟨⟨⟨⟨hsel, hn⟩, hs⟩, hc⟩, hlex⟩ := hB
  have hn' : n < l.length := by simpa using hn
  have htl : (l.take n).length = n := by simp; omega
  have hdl : (l.drop n).length = l.toArray.size - n := by simp
  have inv0 : HeadInv .any l.toArray n (Array.replicate l.toArray.size false) :=
    ⟨by simp, fun j oj _ hl => (by rw [getD_replicate_false] at hl; cases hl), fun t _ ht => getD_in (by simpa using ht) (getD_replicate_false _ _)⟩
  have H := wpAnyM_lex (md := .any) (g := l.toArray.size - n) hC hT hsel (fun listed inv i hi hun t ht => tail_waits hs hc hn inv _ i rfl hi hun t ht) (l.take n) 0 _ a noFacts (fun j hj => by
    have hj' : j < n := by rw [htl] at hj; exact hj
    simp [hj']) (by simpa using htl) (fun _ _ _ _ _ => trivial) ⟨_, hw, fun _ => trivial⟩ (fun _ _ _ => trivial) inv0 (by rw [htl]; exact hlex) h
  refine wp_region_any hm ?_
  have := wpAny_of_M (Q' := Q) (g := l.toArray.size - n) hC hT (fun listed a' F' w' hL hw' hF' => by
    have := wpAny_of_seq (md := .any) (Q' := Q) (l.drop n) n listed a' w' (fun j => by simp [List.getElem?_drop]) (by rw [hdl]; exact hL.1) (hL.2 w' hw' hF')
    rwa [hdl] at this) _ _ _ _ _ (fun _ _ _ _ _ => trivial) hw (fun _ => trivial) H
  rw [htl, show n + (l.toArray.size - n) = l.toArray.size by omega] at this
  exact this

def lexAllB (md : Region.Mode) (ops : Array Oper) : Bool := Region.noSelect ops && Region.lexHead md ops 0 ops.size 0 (Array.replicate ops.size false)

/-- The whole region. -/
theorem wp_region_opens {id : Nat} {Q : Exit → Act → World → Prop} {a : Act} {w : World} {l : List Oper} (E : World → World → Prop) (C : World → Prop) (T : Nat → Option (Value → World → Prop)) (hm : P.follows .mixedOrders = true) (hB : lexAllB .any l.toArray = true)
    (hC : Up E C) (hT : ∀ i R, T i = some R → ∀ v, Up E (R v)) (hw : C w.drew)
    (h : wpM P .any l.toArray E C T (fun a' F' => ∀ w', C w' → (∀ k, F' k w') → Q .normal a' w') l 0 a noFacts) : (Code.region id l.toArray true).wp P Q a w := by
  simp only [lexAllB, Bool.and_eq_true] at hB
  obtain ⟨hsel, hlex⟩ := hB
  have hs : l.toArray.size = l.length := by simp
  have inv0 : HeadInv .any l.toArray l.length (Array.replicate l.toArray.size false) :=
    ⟨by simp, fun j oj _ hl => (by rw [getD_replicate_false] at hl; cases hl), fun t ht ht' => by rw [hs] at ht'; omega⟩
  have H := wpAnyM_lex (md := .any) (g := 0) hC hT hsel (fun listed inv i hi hun t ht hr => by
    obtain ⟨_, o, ho, _⟩ := mem_ready.1 hr
    have := (Array.getElem?_eq_some_iff.1 ho).1
    rw [hs] at this; omega) l 0 _ a noFacts (fun j hj => by simp) (by simp) (fun _ _ _ _ _ => trivial) ⟨_, hw, fun _ => trivial⟩ (fun _ _ _ => trivial) inv0 (by rw [← hs]; exact hlex) h
  refine wp_region_any hm ?_
  have := wpAny_of_M (Q' := Q) (g := 0) hC hT (fun listed a' F' w' hL hw' hF' => ⟨by simpa [Region.seqB] using hL.1, hL.2 w' hw' hF'⟩) _ _ _ _ _ (fun _ _ _ _ _ => trivial) hw (fun _ => trivial) H
  rw [Nat.add_zero] at this
  rw [hs]
  exact this

/-! ### Steps -/
theorem wpM_nil {Q : Act → Facts → Prop} {k : Nat} {a : Act} {F : Facts} (h : Q a F) : wpM P md ops E C T Q [] k a F := h
/-- A value that hangs on nothing but what is known. -/
theorem wpM_val {Q : Act → Facts → Prop} {k : Nat} {a : Act} {F : Facts} {o : Oper} {rest : List Oper} (u : Value) (ht : T k = none) (hw : Region.wanted o (yielded ops a.tmps) = true) (hE : ∀ w, E w w)
    (hr : ∀ w, depC md C o F w → (execOp a.eval o).run P w = .ok (.value u) w) (h : wpM P md ops E C T Q rest (k + 1) (a.put o.dst u) (F.set k (depC md C o F))) : wpM P md ops E C T Q (o :: rest) k a F := by
  show if _ then _ else _
  rw [if_pos hw, ht]
  exact ⟨u, fun w hD => by rw [hr w hD]; exact ⟨hE w, rfl⟩, h⟩
theorem wpM_skip {Q : Act → Facts → Prop} {k : Nat} {a : Act} {F : Facts} {o : Oper} {rest : List Oper} (hw : Region.wanted o (yielded ops a.tmps) = false)
    (h : wpM P md ops E C T Q rest (k + 1) (a.put o.dst undef) F) : wpM P md ops E C T Q (o :: rest) k a F := by
  show if _ then _ else _
  rw [if_neg (by rw [hw]; exact Bool.false_ne_true)]
  exact h
/-- A value that is told by the word T has for it. -/
theorem wpM_op {Q : Act → Facts → Prop} {k : Nat} {a : Act} {F : Facts} {o : Oper} {rest : List Oper} (R : Value → World → Prop) (ht : T k = some R) (hw : Region.wanted o (yielded ops a.tmps) = true)
    (ho : opens P E o a (depC md C o F) R)
    (h : ∀ v, (∃ w, C w ∧ (∀ k, F k w) ∧ R v w) → wpM P md ops E C T Q rest (k + 1) (a.put o.dst v) (F.set k (fun w => depC md C o F w ∧ R v w))) : wpM P md ops E C T Q (o :: rest) k a F := by
  show if _ then _ else _
  rw [if_pos hw, ht]
  exact ⟨ho, h⟩
/-- A call of a function. -/
theorem opens_call {o : Oper} {a : Act} {D : World → Prop} {R : Value → World → Prop} (f : FuncId) (args : Array Value) (hr : ∀ w, D w → (execOp a.eval o).run P w = .ok (.enter f args) w)
    (hc : ∀ w, D w → Calls P f args w fun e w' => ∃ v, e = .returned v ∧ E w w' ∧ R v w') : opens P E o a D R := by
  intro w hw
  rw [hr w hw]
  exact hc w hw
/-- Another operation that makes memory. -/
theorem opens_val {o : Oper} {a : Act} {D : World → Prop} {R : Value → World → Prop} (hr : ∀ w, D w → ∃ v w', (execOp a.eval o).run P w = .ok (.value v) w' ∧ E w w' ∧ R v w') : opens P E o a D R := by
  intro w hw
  obtain ⟨v, w', h1, h2, h3⟩ := hr w hw
  rw [h1]
  exact ⟨h2, h3⟩
end
end Go.Proofs.YtjnobdcbbboeeaaGreat

namespace Go.Proofs.YtjnobdcbbboeeaaGreat
open Go Go.RowKit
set_option linter.unusedVariables false
set_option linter.unusedSimpArgs false

section
variable {l₀ n : Nat} {P : Program} {ops : Array Oper} {md : Region.Mode} {E : World → World → Prop} {C : World → Prop} {T : Nat → Option (Value → World → Prop)}

theorem in_of_calls {l₀ n : Nat} {P : Program} {f : FuncId} {args : Array Value} {w : World} {R : Ending → World → Prop} (h : Calls P f args w R) : CallsIn (Fence.wide.inRound l₀) n P f args w R :=
  CallsIn.inRound l₀ (callsIn_wide.2 h)

theorem wpIn_of_opens {o : Oper} {a : Act} {D : World → Prop} {R : Value → World → Prop} {K' : Act → World → Prop} {Q' : Exit → Act → World → Prop} {w : World} (hnd : ∀ c, o.op ≠ .defer c) (h : opens P E o a D R) (hw : D w)
    (hK : ∀ v w', E w w' → R v w' → K' (a.put o.dst v) w') : o.wpIn (Fence.wide.inRound l₀) n P a w K' Q' := by
  refine ⟨fun _ _ => trivial, ?_⟩
  have := h w hw
  rw [show (Fence.wide.inRound l₀).round = some l₀ from rfl, Oper.semAt_some l₀ a.eval o hnd]
  generalize (execOp a.eval o).run P w = r at *
  cases r with
  | ok m w' =>
    cases m <;> simp only [opensUpon] at this <;> simp only [Oper.uponIn]
    case value u => exact hK _ _ this.1 this.2
    case skip => exact hK _ _ this.1 this.2
    case enter f args => exact ⟨fun h => (by cases h), in_of_calls (this.mono fun e w'' ⟨v, he, h1, h2⟩ => by subst he; exact hK _ _ h1 h2)⟩
  | halt x w' => simp only [opensUpon] at this

theorem wpAnyIn_of_M {m g : Nat} {L : Array Bool → Act → Facts → Prop} {Q' : Exit → Act → World → Prop} (hnd : ∀ (i : Nat) (o : Oper), ops[i]? = some o → ∀ c, o.op ≠ .defer c) (hC : Up E C) (hT : ∀ i R, T i = some R → ∀ v, Up E (R v))
    (hL : ∀ listed a F w, L listed a F → C w → (∀ k, F k w) → wpAnyIn (Fence.wide.inRound l₀) n P md ops Q' g listed a w) :
    ∀ (f : Nat) (listed : Array Bool) (a : Act) (F : Facts) (w : World), (∀ k, Up E (F k)) → C w → (∀ k, F k w) → wpAnyM P md ops E C T m L f listed a F → wpAnyIn (Fence.wide.inRound l₀) n P md ops Q' (f + g) listed a w
  | 0, listed, a, F, w, _, hw, hFw, h => by rw [Nat.zero_add]; exact hL _ _ _ _ h hw hFw
  | f + 1, listed, a, F, w, hF, hw, hFw, h => by
    rw [show f + 1 + g = (f + g) + 1 by omega]
    refine ⟨fun h0 => absurd h0 h.1, fun i hi => ?_⟩
    obtain ⟨_, hop⟩ := h.2 i hi
    unfold opM at hop
    unfold wpOpIn
    split
    · rename_i ho
      simp only [ho] at hop
      exact wpAnyIn_of_M hnd hC hT hL f _ _ _ _ hF hw hFw hop
    · rename_i o ho
      simp only [ho] at hop
      split
      · rename_i hwt
        simp only [hwt, if_true] at hop
        have hD : depC md C o F w := ⟨hw, fun e _ _ => hFw e.on⟩
        have hDu := depC_up (md := md) (o := o) hC hF
        generalize ht : T i = t at hop
        cases t with
        | none =>
          obtain ⟨u, h1, h2⟩ := hop
          refine wpIn_of_opens (hnd i o ho) h1.opens hD fun v w' he hv => ?_
          subst hv
          refine wpAnyIn_of_M hnd hC hT hL f _ _ _ _ (set_up hF hDu) (hC _ _ hw he) (fun k => ?_) h2
          unfold Facts.set
          split
          · exact hDu _ _ hD he
          · exact hF k _ _ (hFw k) he
        | some R =>
          obtain ⟨h1, h2⟩ := hop
          refine wpIn_of_opens (hnd i o ho) h1 hD fun v w' he hv => ?_
          have hFw' : ∀ k, F k w' := fun k => hF k _ _ (hFw k) he
          refine wpAnyIn_of_M hnd hC hT hL f _ _ _ _ (set_up hF fun x y hx hxy => ⟨hDu _ _ hx.1 hxy, hT i R ht v _ _ hx.2 hxy⟩) (hC _ _ hw he) (fun k => ?_) (h2 v ⟨w', hC _ _ hw he, hFw', hv⟩)
          unfold Facts.set
          split
          · exact ⟨hDu _ _ hD he, hv⟩
          · exact hFw' k
      · rename_i hwt
        simp only [hwt] at hop
        exact ⟨fun _ _ => trivial, wpAnyIn_of_M hnd hC hT hL f _ _ _ _ hF hw hFw hop⟩

theorem wpAnyIn_of_seq {F : Fence} {Q' : Exit → Act → World → Prop} : ∀ (l : List Oper) (k : Nat) (listed : Array Bool) (a : Act) (w : World), (∀ j, l[j]? = ops[k + j]?) →
    Region.seqB md ops l.length k listed = true → wpListIn F n P ops Q' l a w → wpAnyIn F n P md ops Q' l.length listed a w
  | [], _, _, _, _, _, hB, h => ⟨by simpa [Region.seqB] using hB, h⟩
  | o :: l, k, listed, a, w, hl, hB, h => by
    have h0 : ops[k]? = some o := by simpa using (hl 0).symm
    simp only [List.length_cons, Region.seqB, Bool.and_eq_true, decide_eq_true_eq] at hB
    refine ⟨fun h1 => (by rw [hB.1] at h1; cases h1), fun i hi => ?_⟩
    rw [hB.1] at hi
    have hik : i = k := by simpa using hi
    subst hik
    have hw : wpOpIn F n P ops Q' i (wpListIn F n P ops Q' l) a w := by unfold wpOpIn; simp only [h0]; exact h
    exact wpOpIn_mono (fun a' w' h' => wpAnyIn_of_seq l (i + 1) _ a' w' (fun j => by have := hl (j + 1); simpa [Nat.add_assoc, Nat.add_comm 1 j] using this) hB.2 h') hw

def noDefer (ops : Array Oper) : Bool := ops.all fun o => match o.op with | .defer _ => false | _ => true
theorem noDefer_spec (h : noDefer ops = true) : ∀ (i : Nat) (o : Oper), ops[i]? = some o → ∀ c, o.op ≠ .defer c := by
  intro i o ho c heq
  have := Array.all_eq_true_iff_forall_mem.1 h o (Array.mem_of_getElem? ho)
  simp [heq] at this

theorem wpIn_region_opens_tail {id : Nat} {Q : Exit → Act → World → Prop} {a : Act} {w : World} {l : List Oper} (E : World → World → Prop) (C : World → Prop) (T : Nat → Option (Value → World → Prop)) (m : Nat) (hm : P.follows .mixedOrders = true) (hB : (noDefer l.toArray && Region.lexTailB .any l.toArray m) = true)
    (hC : Up E C) (hT : ∀ i R, T i = some R → ∀ v, Up E (R v)) (hw : C w.drew)
    (h : wpM P .any l.toArray E C T (fun a' F' => ∀ w', C w' → (∀ k, F' k w') → wpListIn (Fence.wide.inRound l₀) n P l.toArray Q (l.drop m) a' w') (l.take m) 0 a noFacts) : (Code.region id l.toArray true).wpIn (Fence.wide.inRound l₀) n P Q a w := by
  simp only [Region.lexTailB, Bool.and_eq_true, decide_eq_true_eq] at hB
  obtain ⟨hnd, ⟨⟨⟨hsel, hn⟩, hs⟩, hc⟩, hlex⟩ := hB
  have hn' : m < l.length := by simpa using hn
  have htl : (l.take m).length = m := by simp; omega
  have hdl : (l.drop m).length = l.toArray.size - m := by simp
  have inv0 : HeadInv .any l.toArray m (Array.replicate l.toArray.size false) :=
    ⟨by simp, fun j oj _ hl => (by rw [getD_replicate_false] at hl; cases hl), fun t _ ht => getD_in (by simpa using ht) (getD_replicate_false _ _)⟩
  have H := wpAnyM_lex (md := .any) (g := l.toArray.size - m) hC hT hsel (fun listed inv i hi hun t ht => tail_waits hs hc hn inv _ i rfl hi hun t ht) (l.take m) 0 _ a noFacts (fun j hj => by
    have hj' : j < m := by rw [htl] at hj; exact hj
    simp [hj']) (by simpa using htl) (fun _ _ _ _ _ => trivial) ⟨_, hw, fun _ => trivial⟩ (fun _ _ _ => trivial) inv0 (by rw [htl]; exact hlex) h
  refine wpIn_region_any hm ?_
  have := wpAnyIn_of_M (l₀ := l₀) (n := n) (Q' := Q) (g := l.toArray.size - m) (noDefer_spec hnd) hC hT (fun listed a' F' w' hL hw' hF' => by
    have := wpAnyIn_of_seq (n := n) (P := P) (F := Fence.wide.inRound l₀) (md := .any) (Q' := Q) (l.drop m) m listed a' w' (fun j => by simp [List.getElem?_drop]) (by rw [hdl]; exact hL.1) (hL.2 w' hw' hF')
    rwa [hdl] at this) _ _ _ _ _ (fun _ _ _ _ _ => trivial) hw (fun _ => trivial) H
  rw [htl, show m + (l.toArray.size - m) = l.toArray.size by omega] at this
  exact this

theorem wpIn_region_opens {id : Nat} {Q : Exit → Act → World → Prop} {a : Act} {w : World} {l : List Oper} (E : World → World → Prop) (C : World → Prop) (T : Nat → Option (Value → World → Prop)) (hm : P.follows .mixedOrders = true) (hB : (noDefer l.toArray && lexAllB .any l.toArray) = true)
    (hC : Up E C) (hT : ∀ i R, T i = some R → ∀ v, Up E (R v)) (hw : C w.drew)
    (h : wpM P .any l.toArray E C T (fun a' F' => ∀ w', C w' → (∀ k, F' k w') → Q .normal a' w') l 0 a noFacts) : (Code.region id l.toArray true).wpIn (Fence.wide.inRound l₀) n P Q a w := by
  simp only [lexAllB, Bool.and_eq_true] at hB
  obtain ⟨hnd, hsel, hlex⟩ := hB
  have hs : l.toArray.size = l.length := by simp
  have inv0 : HeadInv .any l.toArray l.length (Array.replicate l.toArray.size false) :=
    ⟨by simp, fun j oj _ hl => (by rw [getD_replicate_false] at hl; cases hl), fun t ht ht' => by rw [hs] at ht'; omega⟩
  have H := wpAnyM_lex (md := .any) (g := 0) hC hT hsel (fun listed inv i hi hun t ht hr => by
    obtain ⟨_, o, ho, _⟩ := mem_ready.1 hr
    have := (Array.getElem?_eq_some_iff.1 ho).1
    rw [hs] at this; omega) l 0 _ a noFacts (fun j hj => by simp) (by simp) (fun _ _ _ _ _ => trivial) ⟨_, hw, fun _ => trivial⟩ (fun _ _ _ => trivial) inv0 (by rw [← hs]; exact hlex) h
  refine wpIn_region_any hm ?_
  have := wpAnyIn_of_M (l₀ := l₀) (n := n) (Q' := Q) (g := 0) (noDefer_spec hnd) hC hT (fun listed a' F' w' hL hw' hF' => ⟨by simpa [Region.seqB] using hL.1, hL.2 w' hw' hF'⟩) _ _ _ _ _ (fun _ _ _ _ _ => trivial) hw (fun _ => trivial) H
  rw [Nat.add_zero] at this
  rw [hs]
  exact this
end
end Go.Proofs.YtjnobdcbbboeeaaGreat

namespace Go.Proofs.YtjnobdcbbboeeaaGreat
open Go
set_option linter.unusedVariables false
set_option linter.unusedSimpArgs false

section
variable {P : Program} {ops : Array Oper} {md : Region.Mode} {E : World → World → Prop} {C : World → Prop} {T : Nat → Option (Value → World → Prop)}
theorem wpM_val0 {Q : Act → Facts → Prop} {k : Nat} {a : Act} {F : Facts} {o : Oper} {rest : List Oper} (u : Value) (ht : T k = none) (hw : Region.wanted o (yielded ops a.tmps) = true) (hE : ∀ w, E w w)
    (hr : ∀ w, depC md C o F w → (execOp a.eval o).run P w = .ok (.value u) w) (h : ∀ φ : World → Prop, wpM P md ops E C T Q rest (k + 1) (a.put o.dst u) (F.set k φ)) : wpM P md ops E C T Q (o :: rest) k a F :=
  wpM_val u ht hw hE hr (h _)

/-- The walk of a region, closed up. -/
structure WM (P : Program) (md : Region.Mode) (ops : Array Oper) (E : World → World → Prop) (C : World → Prop) (T : Nat → Option (Value → World → Prop)) (Q : Act → Facts → Prop) (l : List Oper) (k : Nat) (a : Act) (F : Facts) : Prop where
  out : wpM P md ops E C T Q l k a F
theorem wM_nil {Q : Act → Facts → Prop} {k : Nat} {a : Act} {F : Facts} (h : Q a F) : WM P md ops E C T Q [] k a F := ⟨h⟩
theorem wM_val {Q : Act → Facts → Prop} {k : Nat} {a : Act} {F : Facts} {o : Oper} {rest : List Oper} (u : Value) (ht : T k = none) (hw : Region.wanted o (yielded ops a.tmps) = true) (hE : ∀ w, E w w)
    (hr : ∀ w, depC md C o F w → (execOp a.eval o).run P w = .ok (.value u) w) (h : ∀ φ : World → Prop, WM P md ops E C T Q rest (k + 1) (a.put o.dst u) (F.set k φ)) : WM P md ops E C T Q (o :: rest) k a F :=
  ⟨wpM_val u ht hw hE hr (h _).out⟩
theorem wM_skip {Q : Act → Facts → Prop} {k : Nat} {a : Act} {F : Facts} {o : Oper} {rest : List Oper} (hw : Region.wanted o (yielded ops a.tmps) = false)
    (h : WM P md ops E C T Q rest (k + 1) (a.put o.dst undef) F) : WM P md ops E C T Q (o :: rest) k a F := ⟨wpM_skip hw h.out⟩
theorem wM_op {Q : Act → Facts → Prop} {k : Nat} {a : Act} {F : Facts} {o : Oper} {rest : List Oper} (R : Value → World → Prop) (ht : T k = some R) (hw : Region.wanted o (yielded ops a.tmps) = true)
    (ho : opens P E o a (depC md C o F) R)
    (h : ∀ v, (∃ w, C w ∧ (∀ k, F k w) ∧ R v w) → WM P md ops E C T Q rest (k + 1) (a.put o.dst v) (F.set k (fun w => depC md C o F w ∧ R v w))) : WM P md ops E C T Q (o :: rest) k a F :=
  ⟨wpM_op R ht hw ho fun v hv => (h v hv).out⟩
theorem wp_region_shut {id : Nat} {Q : Exit → Act → World → Prop} {a : Act} {w : World} {l : List Oper} (E : World → World → Prop) (C : World → Prop) (T : Nat → Option (Value → World → Prop)) (hm : P.follows .mixedOrders = true) (hB : lexAllB .any l.toArray = true)
    (hC : Up E C) (hT : ∀ i R, T i = some R → ∀ v, Up E (R v)) (hw : C w.drew)
    (h : WM P .any l.toArray E C T (fun a' F' => ∀ w', C w' → (∀ k, F' k w') → Q .normal a' w') l 0 a noFacts) : (Code.region id l.toArray true).wp P Q a w := wp_region_opens E C T hm hB hC hT hw h.out
theorem wp_region_shut_tail {id : Nat} {Q : Exit → Act → World → Prop} {a : Act} {w : World} {l : List Oper} (E : World → World → Prop) (C : World → Prop) (T : Nat → Option (Value → World → Prop)) (n : Nat) (hm : P.follows .mixedOrders = true) (hB : Region.lexTailB .any l.toArray n = true)
    (hC : Up E C) (hT : ∀ i R, T i = some R → ∀ v, Up E (R v)) (hw : C w.drew)
    (h : WM P .any l.toArray E C T (fun a' F' => ∀ w', C w' → (∀ k, F' k w') → wpList P l.toArray Q (l.drop n) a' w') (l.take n) 0 a noFacts) : (Code.region id l.toArray true).wp P Q a w := wp_region_opens_tail E C T n hm hB hC hT hw h.out
theorem wpIn_region_shut {l₀ n : Nat} {id : Nat} {Q : Exit → Act → World → Prop} {a : Act} {w : World} {l : List Oper} (E : World → World → Prop) (C : World → Prop) (T : Nat → Option (Value → World → Prop)) (hm : P.follows .mixedOrders = true) (hB : (noDefer l.toArray && lexAllB .any l.toArray) = true)
    (hC : Up E C) (hT : ∀ i R, T i = some R → ∀ v, Up E (R v)) (hw : C w.drew)
    (h : WM P .any l.toArray E C T (fun a' F' => ∀ w', C w' → (∀ k, F' k w') → Q .normal a' w') l 0 a noFacts) : (Code.region id l.toArray true).wpIn (Fence.wide.inRound l₀) n P Q a w := wpIn_region_opens E C T hm hB hC hT hw h.out
theorem wpIn_region_shut_tail {l₀ n : Nat} {id : Nat} {Q : Exit → Act → World → Prop} {a : Act} {w : World} {l : List Oper} (E : World → World → Prop) (C : World → Prop) (T : Nat → Option (Value → World → Prop)) (m : Nat) (hm : P.follows .mixedOrders = true) (hB : (noDefer l.toArray && Region.lexTailB .any l.toArray m) = true)
    (hC : Up E C) (hT : ∀ i R, T i = some R → ∀ v, Up E (R v)) (hw : C w.drew)
    (h : WM P .any l.toArray E C T (fun a' F' => ∀ w', C w' → (∀ k, F' k w') → wpListIn (Fence.wide.inRound l₀) n P l.toArray Q (l.drop m) a' w') (l.take m) 0 a noFacts) : (Code.region id l.toArray true).wpIn (Fence.wide.inRound l₀) n P Q a w := wpIn_region_opens_tail E C T m hm hB hC hT hw h.out
end
end Go.Proofs.YtjnobdcbbboeeaaGreat

namespace Go.Proofs.YtjnobdcbbboeeaaGreat
open Go Go.RowKit
set_option linter.unusedVariables false
set_option linter.unusedSimpArgs false

section
variable {n : Nat} {P : Program} {ops : Array Oper} {md : Region.Mode} {E : World → World → Prop} {C : World → Prop} {T : Nat → Option (Value → World → Prop)}

theorem wpW_of_opens {o : Oper} {a : Act} {D : World → Prop} {R : Value → World → Prop} {K' : Act → World → Prop} {Q' : Exit → Act → World → Prop} {w : World} (hnd : ∀ c, o.op ≠ .defer c) (h : opens P E o a D R) (hw : D w)
    (hK : ∀ v w', E w w' → R v w' → K' (a.put o.dst v) w') : o.wpIn Fence.wide n P a w K' Q' := by
  refine ⟨fun _ _ => trivial, ?_⟩
  have := h w hw
  rw [show Fence.wide.round = none from rfl, Oper.semAt_none]
  generalize (execOp a.eval o).run P w = r at *
  cases r with
  | ok m w' =>
    cases m <;> simp only [opensUpon] at this <;> simp only [Oper.uponIn]
    case value u => exact hK _ _ this.1 this.2
    case skip => exact hK _ _ this.1 this.2
    case enter f args => exact ⟨fun h => (by cases h), callsIn_wide.2 (this.mono fun e w'' ⟨v, he, h1, h2⟩ => by subst he; exact hK _ _ h1 h2)⟩
  | halt x w' => simp only [opensUpon] at this

theorem wpAnyW_of_M {m g : Nat} {L : Array Bool → Act → Facts → Prop} {Q' : Exit → Act → World → Prop} (hnd : ∀ (i : Nat) (o : Oper), ops[i]? = some o → ∀ c, o.op ≠ .defer c) (hC : Up E C) (hT : ∀ i R, T i = some R → ∀ v, Up E (R v))
    (hL : ∀ listed a F w, L listed a F → C w → (∀ k, F k w) → wpAnyIn Fence.wide n P md ops Q' g listed a w) :
    ∀ (f : Nat) (listed : Array Bool) (a : Act) (F : Facts) (w : World), (∀ k, Up E (F k)) → C w → (∀ k, F k w) → wpAnyM P md ops E C T m L f listed a F → wpAnyIn Fence.wide n P md ops Q' (f + g) listed a w
  | 0, listed, a, F, w, _, hw, hFw, h => by rw [Nat.zero_add]; exact hL _ _ _ _ h hw hFw
  | f + 1, listed, a, F, w, hF, hw, hFw, h => by
    rw [show f + 1 + g = (f + g) + 1 by omega]
    refine ⟨fun h0 => absurd h0 h.1, fun i hi => ?_⟩
    obtain ⟨_, hop⟩ := h.2 i hi
    unfold opM at hop
    unfold wpOpIn
    split
    · rename_i ho
      simp only [ho] at hop
      exact wpAnyW_of_M hnd hC hT hL f _ _ _ _ hF hw hFw hop
    · rename_i o ho
      simp only [ho] at hop
      split
      · rename_i hwt
        simp only [hwt, if_true] at hop
        have hD : depC md C o F w := ⟨hw, fun e _ _ => hFw e.on⟩
        have hDu := depC_up (md := md) (o := o) hC hF
        generalize ht : T i = t at hop
        cases t with
        | none =>
          obtain ⟨u, h1, h2⟩ := hop
          refine wpW_of_opens (hnd i o ho) h1.opens hD fun v w' he hv => ?_
          subst hv
          refine wpAnyW_of_M hnd hC hT hL f _ _ _ _ (set_up hF hDu) (hC _ _ hw he) (fun k => ?_) h2
          unfold Facts.set
          split
          · exact hDu _ _ hD he
          · exact hF k _ _ (hFw k) he
        | some R =>
          obtain ⟨h1, h2⟩ := hop
          refine wpW_of_opens (hnd i o ho) h1 hD fun v w' he hv => ?_
          have hFw' : ∀ k, F k w' := fun k => hF k _ _ (hFw k) he
          refine wpAnyW_of_M hnd hC hT hL f _ _ _ _ (set_up hF fun x y hx hxy => ⟨hDu _ _ hx.1 hxy, hT i R ht v _ _ hx.2 hxy⟩) (hC _ _ hw he) (fun k => ?_) (h2 v ⟨w', hC _ _ hw he, hFw', hv⟩)
          unfold Facts.set
          split
          · exact ⟨hDu _ _ hD he, hv⟩
          · exact hFw' k
      · rename_i hwt
        simp only [hwt] at hop
        exact ⟨fun _ _ => trivial, wpAnyW_of_M hnd hC hT hL f _ _ _ _ hF hw hFw hop⟩

theorem wpW_region_opens_tail {id : Nat} {Q : Exit → Act → World → Prop} {a : Act} {w : World} {l : List Oper} (E : World → World → Prop) (C : World → Prop) (T : Nat → Option (Value → World → Prop)) (m : Nat) (hm : P.follows .mixedOrders = true) (hB : (noDefer l.toArray && Region.lexTailB .any l.toArray m) = true)
    (hC : Up E C) (hT : ∀ i R, T i = some R → ∀ v, Up E (R v)) (hw : C w.drew)
    (h : wpM P .any l.toArray E C T (fun a' F' => ∀ w', C w' → (∀ k, F' k w') → wpListIn Fence.wide n P l.toArray Q (l.drop m) a' w') (l.take m) 0 a noFacts) : (Code.region id l.toArray true).wpIn Fence.wide n P Q a w := by
  simp only [Region.lexTailB, Bool.and_eq_true, decide_eq_true_eq] at hB
  obtain ⟨hnd, ⟨⟨⟨hsel, hn⟩, hs⟩, hc⟩, hlex⟩ := hB
  have hn' : m < l.length := by simpa using hn
  have htl : (l.take m).length = m := by simp; omega
  have hdl : (l.drop m).length = l.toArray.size - m := by simp
  have inv0 : HeadInv .any l.toArray m (Array.replicate l.toArray.size false) :=
    ⟨by simp, fun j oj _ hl => (by rw [getD_replicate_false] at hl; cases hl), fun t _ ht => getD_in (by simpa using ht) (getD_replicate_false _ _)⟩
  have H := wpAnyM_lex (md := .any) (g := l.toArray.size - m) hC hT hsel (fun listed inv i hi hun t ht => tail_waits hs hc hn inv _ i rfl hi hun t ht) (l.take m) 0 _ a noFacts (fun j hj => by
    have hj' : j < m := by rw [htl] at hj; exact hj
    simp [hj']) (by simpa using htl) (fun _ _ _ _ _ => trivial) ⟨_, hw, fun _ => trivial⟩ (fun _ _ _ => trivial) inv0 (by rw [htl]; exact hlex) h
  refine wpIn_region_any hm ?_
  have := wpAnyW_of_M (n := n) (Q' := Q) (g := l.toArray.size - m) (noDefer_spec hnd) hC hT (fun listed a' F' w' hL hw' hF' => by
    have := wpAnyIn_of_seq (n := n) (P := P) (F := Fence.wide) (md := .any) (Q' := Q) (l.drop m) m listed a' w' (fun j => by simp [List.getElem?_drop]) (by rw [hdl]; exact hL.1) (hL.2 w' hw' hF')
    rwa [hdl] at this) _ _ _ _ _ (fun _ _ _ _ _ => trivial) hw (fun _ => trivial) H
  rw [htl, show m + (l.toArray.size - m) = l.toArray.size by omega] at this
  exact this

theorem wpW_region_opens {id : Nat} {Q : Exit → Act → World → Prop} {a : Act} {w : World} {l : List Oper} (E : World → World → Prop) (C : World → Prop) (T : Nat → Option (Value → World → Prop)) (hm : P.follows .mixedOrders = true) (hB : (noDefer l.toArray && lexAllB .any l.toArray) = true)
    (hC : Up E C) (hT : ∀ i R, T i = some R → ∀ v, Up E (R v)) (hw : C w.drew)
    (h : wpM P .any l.toArray E C T (fun a' F' => ∀ w', C w' → (∀ k, F' k w') → Q .normal a' w') l 0 a noFacts) : (Code.region id l.toArray true).wpIn Fence.wide n P Q a w := by
  simp only [lexAllB, Bool.and_eq_true] at hB
  obtain ⟨hnd, hsel, hlex⟩ := hB
  have hs : l.toArray.size = l.length := by simp
  have inv0 : HeadInv .any l.toArray l.length (Array.replicate l.toArray.size false) :=
    ⟨by simp, fun j oj _ hl => (by rw [getD_replicate_false] at hl; cases hl), fun t ht ht' => by rw [hs] at ht'; omega⟩
  have H := wpAnyM_lex (md := .any) (g := 0) hC hT hsel (fun listed inv i hi hun t ht hr => by
    obtain ⟨_, o, ho, _⟩ := mem_ready.1 hr
    have := (Array.getElem?_eq_some_iff.1 ho).1
    rw [hs] at this; omega) l 0 _ a noFacts (fun j hj => by simp) (by simp) (fun _ _ _ _ _ => trivial) ⟨_, hw, fun _ => trivial⟩ (fun _ _ _ => trivial) inv0 (by rw [← hs]; exact hlex) h
  refine wpIn_region_any hm ?_
  have := wpAnyW_of_M (n := n) (Q' := Q) (g := 0) (noDefer_spec hnd) hC hT (fun listed a' F' w' hL hw' hF' => ⟨by simpa [Region.seqB] using hL.1, hL.2 w' hw' hF'⟩) _ _ _ _ _ (fun _ _ _ _ _ => trivial) hw (fun _ => trivial) H
  rw [Nat.add_zero] at this
  rw [hs]
  exact this
theorem wpW_region_shut_tail {n : Nat} {id : Nat} {Q : Exit → Act → World → Prop} {a : Act} {w : World} {l : List Oper} (E : World → World → Prop) (C : World → Prop) (T : Nat → Option (Value → World → Prop)) (m : Nat) (hm : P.follows .mixedOrders = true) (hB : (noDefer l.toArray && Region.lexTailB .any l.toArray m) = true)
    (hC : Up E C) (hT : ∀ i R, T i = some R → ∀ v, Up E (R v)) (hw : C w.drew)
    (h : WM P .any l.toArray E C T (fun a' F' => ∀ w', C w' → (∀ k, F' k w') → wpListIn Fence.wide n P l.toArray Q (l.drop m) a' w') (l.take m) 0 a noFacts) : (Code.region id l.toArray true).wpIn Fence.wide n P Q a w := wpW_region_opens_tail E C T m hm hB hC hT hw h.out
theorem wpW_region_shut {n : Nat} {id : Nat} {Q : Exit → Act → World → Prop} {a : Act} {w : World} {l : List Oper} (E : World → World → Prop) (C : World → Prop) (T : Nat → Option (Value → World → Prop)) (hm : P.follows .mixedOrders = true) (hB : (noDefer l.toArray && lexAllB .any l.toArray) = true)
    (hC : Up E C) (hT : ∀ i R, T i = some R → ∀ v, Up E (R v)) (hw : C w.drew)
    (h : WM P .any l.toArray E C T (fun a' F' => ∀ w', C w' → (∀ k, F' k w') → Q .normal a' w') l 0 a noFacts) : (Code.region id l.toArray true).wpIn Fence.wide n P Q a w := wpW_region_opens E C T hm hB hC hT hw h.out
end
end Go.Proofs.YtjnobdcbbboeeaaGreat
