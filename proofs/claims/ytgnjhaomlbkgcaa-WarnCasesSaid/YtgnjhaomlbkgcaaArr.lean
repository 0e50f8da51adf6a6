/- Arrays of numbers: loaded whole, and held against each other. No program stands here. -/
import Derived.Test.YtgnjhaomlbkgcaaBase
import Derived.ChangeKeysEq
namespace Go.Proofs.Ytgnjhaomlbkgcaa
open Go Go.RowKit
set_option linter.unusedVariables false
set_option linter.unusedSimpArgs false

section
variable {P : Program}

theorem run_loadVar_cells (w : World) (ty : TypeId) (p : Addr) (cs : List Value) (d : TypeDesc) (h : ∀ j v, cs[j]? = some v → w.cell? (p.add j) = some v)
    (hu : P.underlying ty = some d) (hd : (match d with | .struct _ | .array _ _ => true | _ => false) = true) (hi : (P.info? ty).map (·.size) = some cs.length) :
    (loadVar ty p).run P w = .ok (.agg cs.toArray) w := by
  have hl := run_loadCells_list (P := P) w p cs h
  cases hq : P.info? ty with
  | none => simp [hq] at hi
  | some i =>
    have hs : i.size = cs.length := by simpa [hq] using hi
    have hagg : (isAgg ty).run P w = .ok true w := by
      unfold isAgg
      rw [Sem.run_bind, run_underlying hu w]
      cases d <;> simp_all
    simp [loadVar, Sem.run_bind, hagg, sizeOf, typeInfo, hq, hs, hl]

/-- An operation that loads a whole array. -/
theorem run_load_cells (w : World) {o : Oper} (ρ : Operand → Value) (ty : TypeId) (x : Operand) (ho : o.op = .load ty x) (p : Addr) (hx : ρ x = .pointer (some p)) (cs : List Value) (d : TypeDesc)
    (h : ∀ j v, cs[j]? = some v → w.cell? (p.add j) = some v)
    (hu : P.underlying ty = some d) (hd : (match d with | .struct _ | .array _ _ => true | _ => false) = true) (hi : (P.info? ty).map (·.size) = some cs.length) :
    (execOp ρ o).run P w = .ok (.value (.agg cs.toArray)) w := by
  unfold execOp
  simp only [ho, hx, Instr.loadAt, Instr.sureAddr, Sem.run_bind, Sem.run_pure, Result.andThen_ok, run_loadVar_cells w ty p cs d h hu hd hi]

theorem wpList_load_cells {ops : Array Oper} {rest : List Oper} {o : Oper} {a : Act} {w : World} {Q : Exit → Act → World → Prop} (hgd : o.guard = none) (ty : TypeId) (x : Operand) (ho : o.op = .load ty x)
    (p : Addr) (hx : a.eval x = .pointer (some p)) (cs : List Value) (d : TypeDesc) (h : ∀ j v, cs[j]? = some v → w.cell? (p.add j) = some v)
    (hu : P.underlying ty = some d) (hd : (match d with | .struct _ | .array _ _ => true | _ => false) = true) (hi : (P.info? ty).map (·.size) = some cs.length)
    (hn : wpList P ops Q rest (a.put o.dst (.agg cs.toArray)) w) : wpList P ops Q (o :: rest) a w :=
  wpList_plain hgd fun _ hK => by
    unfold Oper.wp
    rw [run_load_cells w a.eval ty x ho p hx cs d h hu hd hi]
    exact hK _ _ hn

/-! ### '==' -/
theorem run_part_int (w : World) (e : TypeId) (k : IntKind) (he : P.underlying e = some (.int k)) (xs : List Int) (i : Nat) (x : Int) (h : xs[i]? = some x) :
    (part e (xs.map (Value.int k)).toArray i).run P w = .ok (.int k x) w := by
  have hagg : (isAgg e).run P w = .ok false w := by
    unfold isAgg
    rw [Sem.run_bind, run_underlying he w]
    simp
  simp [part, Sem.run_bind, hagg, h]

theorem eqItems_ints (w : World) (d : Nat) (e : TypeId) (k : IntKind) (he : P.underlying e = some (.int k)) (xs ys : List Int) : ∀ (is : List Nat), (∀ i ∈ is, i < xs.length ∧ i < ys.length) →
    (Op.eqItems (d + 1) e 1 (xs.map (Value.int k)).toArray (ys.map (Value.int k)).toArray is).run P w = .ok (is.all fun i => xs[i]? == ys[i]?) w
  | [], _ => by simp [Op.eqItems]
  | i :: is, h => by
    obtain ⟨h1, h2⟩ := h i (by simp)
    have hx : xs[i]? = some xs[i] := List.getElem?_eq_getElem h1
    have hy : ys[i]? = some ys[i] := List.getElem?_eq_getElem h2
    have ih := eqItems_ints w d e k he xs ys is (fun j hj => h j (by simp [hj]))
    unfold Op.eqItems
    simp only [Nat.mul_one, Sem.run_bind, run_part_int w e k he xs i _ hx, run_part_int w e k he ys i _ hy, Result.andThen_ok, run_equalIn_int w d e k k _ _ he, List.all_cons, hx, hy]
    cases hq : (xs[i] == ys[i])
    · have : (some xs[i] == some ys[i]) = false := by simpa using hq
      simp [this]
    · have : (some xs[i] == some ys[i]) = true := by simpa using hq
      simp [this, ih]

theorem all_range_eq (xs ys : List Int) (h : xs.length = ys.length) : ((List.range xs.length).all fun i => xs[i]? == ys[i]?) = (xs == ys) := by
  rw [Bool.eq_iff_iff]
  simp only [List.all_eq_true, List.mem_range, beq_iff_eq]
  constructor
  · intro hh
    apply List.ext_getElem? fun i => ?_
    rcases Nat.lt_or_ge i xs.length with hi | hi
    · exact hh i hi
    · rw [List.getElem?_eq_none hi, List.getElem?_eq_none (by omega)]
  · rintro rfl i _; rfl

/-- '==' of two arrays of numbers. -/
theorem run_equalIn_arr1 (w : World) (d : Nat) (t e : TypeId) (k : IntKind) (n : Nat) (ht : P.underlying t = some (.array n e)) (he : P.underlying e = some (.int k)) (hi : (P.info? e).isSome = true) (hc : P.cellsOf e = 1)
    (xs ys : List Int) (hx : xs.length = n) (hy : ys.length = n) : (Op.equalIn (d + 2) t (.agg (xs.map (Value.int k)).toArray) (.agg (ys.map (Value.int k)).toArray)).run P w = .ok (xs == ys) w := by
  obtain ⟨i, hi⟩ := Option.isSome_iff_exists.1 hi
  rw [run_equalIn_array (w := w) (d + 1) _ _ ht hi, hc, eqItems_ints w d e k he xs ys _ (fun i hi => by simp at hi; omega), ← hx, all_range_eq xs ys (by omega)]

def rowOf (m : Nat) (xs : List Int) (i : Nat) : List Int := (xs.drop (i * m)).take m
theorem rowOf_len (m n : Nat) (xs : List Int) (hx : xs.length = n * m) (i : Nat) (hi : i < n) : (rowOf m xs i).length = m := by
  have h1 : i * m + m ≤ n * m := by
    have := Nat.mul_le_mul_right m (show i + 1 ≤ n by omega)
    rw [Nat.add_mul] at this; omega
  simp [rowOf, hx]; omega

theorem run_part_row (w : World) (t2 e : TypeId) (k : IntKind) (m : Nat) (ht2 : P.underlying t2 = some (.array m e)) (hi2 : (P.info? t2).isSome = true) (hc2 : P.cellsOf t2 = m) (xs : List Int) (i : Nat) :
    (part t2 (xs.map (Value.int k)).toArray (i * m)).run P w = .ok (.agg ((rowOf m xs i).map (Value.int k)).toArray) w := by
  have hagg : (isAgg t2).run P w = .ok true w := by
    unfold isAgg
    rw [Sem.run_bind, run_underlying ht2 w]
    simp
  obtain ⟨inf, hinf⟩ := Option.isSome_iff_exists.1 hi2
  simp only [part, Sem.run_bind, hagg, Result.andThen_ok, if_true, run_sizeOf w hinf, hc2, Sem.run_pure]
  congr 2
  simp [rowOf, List.map_drop, List.map_take, List.extract_eq_take_drop]

theorem rows_eq (m : Nat) (xs ys : List Int) : ∀ n, xs.length = n * m → ys.length = n * m → ((List.range n).all fun i => rowOf m xs i == rowOf m ys i) = (xs == ys) := by
  intro n hx hy
  rw [Bool.eq_iff_iff]
  simp only [List.all_eq_true, List.mem_range, beq_iff_eq]
  constructor
  · intro hh
    rcases Nat.eq_zero_or_pos m with hm | hm
    · subst hm; simp at hx hy; rw [hx, hy]
    · apply List.ext_getElem? fun j => ?_
      rcases Nat.lt_or_ge j xs.length with hj | hj
      · have hq : j / m < n := Nat.div_lt_of_lt_mul (by rw [Nat.mul_comm]; omega)
        have hr := congrArg (fun l => l[j % m]?) (hh (j / m) hq)
        have hmod : j % m < m := Nat.mod_lt _ hm
        have hdj : j / m * m + j % m = j := by rw [Nat.mul_comm]; exact Nat.div_add_mod j m
        simp only [rowOf, List.getElem?_take, hmod, if_true, List.getElem?_drop, hdj] at hr
        exact hr
      · rw [List.getElem?_eq_none hj, List.getElem?_eq_none (by omega)]
  · rintro rfl i _; rfl

theorem eqItems_rows (w : World) (d : Nat) (t2 e : TypeId) (k : IntKind) (n m : Nat) (ht2 : P.underlying t2 = some (.array m e)) (hi2 : (P.info? t2).isSome = true) (hc2 : P.cellsOf t2 = m) (he : P.underlying e = some (.int k)) (hi : (P.info? e).isSome = true) (hc : P.cellsOf e = 1)
    (xs ys : List Int) (hx : xs.length = n * m) (hy : ys.length = n * m) : ∀ (is : List Nat), (∀ i ∈ is, i < n) →
    (Op.eqItems (d + 2) t2 m (xs.map (Value.int k)).toArray (ys.map (Value.int k)).toArray is).run P w = .ok (is.all fun i => rowOf m xs i == rowOf m ys i) w
  | [], _ => by simp [Op.eqItems]
  | i :: is, h => by
    have ih := eqItems_rows w d t2 e k n m ht2 hi2 hc2 he hi hc xs ys hx hy is (fun j hj => h j (by simp [hj]))
    have hin := h i (by simp)
    unfold Op.eqItems
    simp only [Sem.run_bind, run_part_row w t2 e k m ht2 hi2 hc2, Result.andThen_ok, run_equalIn_arr1 w d t2 e k m ht2 he hi hc _ _ (rowOf_len m n xs hx i hin) (rowOf_len m n ys hy i hin), List.all_cons]
    cases hq : (rowOf m xs i == rowOf m ys i)
    · simp
    · simp [ih]

/-- '==' of two arrays of arrays of numbers. -/
theorem run_equalIn_arr2 (w : World) (d : Nat) (t t2 e : TypeId) (k : IntKind) (n m : Nat) (ht : P.underlying t = some (.array n t2)) (ht2 : P.underlying t2 = some (.array m e)) (hi2 : (P.info? t2).isSome = true) (hc2 : P.cellsOf t2 = m) (he : P.underlying e = some (.int k)) (hi : (P.info? e).isSome = true) (hc : P.cellsOf e = 1)
    (xs ys : List Int) (hx : xs.length = n * m) (hy : ys.length = n * m) : (Op.equalIn (d + 3) t (.agg (xs.map (Value.int k)).toArray) (.agg (ys.map (Value.int k)).toArray)).run P w = .ok (xs == ys) w := by
  obtain ⟨inf, hinf⟩ := Option.isSome_iff_exists.1 hi2
  rw [run_equalIn_array (w := w) (d + 2) _ _ ht hinf, hc2, eqItems_rows w d t2 e k n m ht2 hi2 hc2 he hi hc xs ys hx hy _ (fun i hi => by simpa using hi), rows_eq m xs ys n hx hy]

/-- The operation '==' over two arrays. -/
theorem run_eql_op (w : World) {o : Oper} (ρ : Operand → Value) (t ty : TypeId) (x y : Operand) (ho : o.op = .binOp .eql t x y ty) (xs ys : Array Value) (hx : ρ x = .agg xs) (hy : ρ y = .agg ys) (b : Bool)
    (hg : P.eqGuardType P.depth t = false) (he : (Op.equalIn 10000 t (.agg xs) (.agg ys)).run P w = .ok b w) : (execOp ρ o).run P w = .ok (.value (.bool b)) w := by
  unfold execOp
  simp only [ho, hx, hy, Sem.run_bind, run_eqGuard_agg w .eql t x y xs ys hg, Result.andThen_ok, run_eql_struct w t xs ys, he, Sem.run_pure]
end
end Go.Proofs.Ytgnjhaomlbkgcaa
