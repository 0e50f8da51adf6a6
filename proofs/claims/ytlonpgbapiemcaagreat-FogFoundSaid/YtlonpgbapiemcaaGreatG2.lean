/- All blocks but one as they were. No program stands here. All blocks but those of a kind as they were. No program stands here. append onto a row of the call's own: the law with the new row's block. No program stands here. Arrays of numbers: loaded whole, and held against each other. No program stands here. A region that draws its order and whose operations only let the world go on along a preorder E (new blocks; one block of a kind known): ONE walk of the text's order serves every order. Values that hang on the order (addresses of new blocks) are told by words of their own (T). After the kit's own theorem on quiet regions; no program stands here. The region theorem in the forms that a walk uses: the whole region, or all but a tail in a forced order. The region theorem within a round of a range over a function (the wide fence). A step of a drawn region whose facts are forgotten: what is known then grows by one word a step, and not twofold. The walk stands in a structure, so that no tactic opens it while it looks at the goal. No program stands here. The region theorem under the wide fence itself (the body of an iterator). A region that draws its order, with some edges more: lone moves that may float behind an operation may be taken ahead of it. No program stands here. A fog at work in memory: the fog and its distances in one block; and what the loops of opened make of the distances. Maps whose keys are a minute and a place (fog.spot). An entry of a map of spots that is asked for ahead of its store ('m[k] += v' in a statement that draws its order). -/
import Derived.Test.YtlonpgbapiemcaaGreatG1
import Derived.ChangeKeysEq
import Derived.StillTail
import Derived.BigQuiet
import Derived.RangeFuncNested
import Derived.RangeFuncBound
import Derived.RangeFuncCalls
import Derived.RangeFuncLeaves
import Derived.OwnWalkIn
import Derived.TacticsInMore
import Derived.LoopNIn
import Derived.LoopIn
import Derived.Shelf.AbstractIn
import Derived.Test.YtlonpgbapiemcaaGreatProg
import Derived.Maps.OwnSet
import Derived.DeepKeys4
import Derived.WideKeyEntry
namespace Go.Proofs.YtlonpgbapiemcaaGreat
open Go Go.RowKit
set_option linter.unusedVariables false
set_option linter.unusedSimpArgs false

/-! ### All blocks but one as they were -/
/-- Nothing that lay has turned but block D. -/
def Bel (D : Nat) (w w' : World) : Prop := Below 0 w w' ∧ ∀ k, k < w.heap.size → k ≠ D → w'.heap[k]? = w.heap[k]?
theorem Bel.refl (D : Nat) (w : World) : Bel D w w := ⟨Below.refl _ _, fun _ _ _ => rfl⟩
theorem Bel.size {D : Nat} {w w' : World} (h : Bel D w w') : w.heap.size ≤ w'.heap.size := h.1.size
theorem Bel.trans {D : Nat} {a b c : World} (h : Bel D a b) (k : Bel D b c) : Bel D a c :=
  ⟨h.1.trans k.1, fun i hi hD => (k.2 i (Nat.lt_of_lt_of_le hi h.size) hD).trans (h.2 i hi hD)⟩
theorem Ext.bel {D : Nat} {w w' : World} (h : Ext w w') : Bel D w w' := ⟨Below.mono h (Nat.zero_le _), fun k hk _ => Below.block h k hk⟩
theorem heap_setCell_ne (w : World) (p : Addr) (u : Value) (k : Nat) (h : k ≠ p.block) : (w.setCell p u).heap[k]? = w.heap[k]? := Below.heap_setCell _ _ _ k h
theorem Bel.setCell {D : Nat} {a w : World} (h : Bel D a w) (i : Nat) (u : Value) : Bel D a (w.setCell ⟨D, i, none⟩ u) :=
  h.trans ⟨(Below.refl 0 w).setCell (Nat.zero_le _) u, fun k _ hD => heap_setCell_ne _ _ _ _ hD⟩
theorem cell_of_heap {w w' : World} {p : Addr} (h : w'.heap[p.block]? = w.heap[p.block]?) : w'.cell? p = w.cell? p := by
  unfold World.cell?; rw [h]
theorem Bel.cell {D : Nat} {w w' : World} (h : Bel D w w') {p : Addr} {u : Value} (hp : w.cell? p = some u) (hne : p.block ≠ D) : w'.cell? p = some u :=
  (cell_of_heap (h.2 _ (World.block_lt_of_cell? w p hp) hne)).trans hp
theorem Bel.cel {D : Nat} {w w' : World} (h : Bel D w w') : Cel D w w' := ⟨h.size, fun _ _ hne hp => h.cell hp hne⟩
theorem Bel.heap {D : Nat} {w w' : World} (h : Bel D w w') {k : Nat} {o : Obj} (hk : w.heap[k]? = some o) (hne : k ≠ D) : w'.heap[k]? = some o :=
  (h.2 k (Array.getElem?_eq_some_iff.1 hk).1 hne).trans hk
theorem Ext.then_bel {D : Nat} {a w w' : World} (h : Ext a w) (hD : a.heap.size ≤ D) (k : Bel D w w') : Ext a w' := by
  obtain ⟨h1, h2, h3, h4, h5⟩ := h
  obtain ⟨⟨k1, k2, k3, k4, _⟩, k5⟩ := k
  refine ⟨?_, ?_, ?_, ?_, fun i hi => ?_⟩
  · exact k1.trans h1
  · exact k2.trans h2
  · exact k3.trans h3
  · exact Nat.le_trans h4 k4
  · exact (k5 i (by omega) (by omega)).trans (h5 i hi)
theorem Cel.setCell {D : Nat} (w : World) (i : Nat) (u : Value) : Cel D w (w.setCell ⟨D, i, none⟩ u) := ((Bel.refl D w).setCell i u).cel

end Go.Proofs.YtlonpgbapiemcaaGreat

namespace Go.Proofs.YtlonpgbapiemcaaGreat
open Go Go.RowKit
set_option linter.unusedVariables false
set_option linter.unusedSimpArgs false

def BelS (S : Nat → Prop) (w w' : World) : Prop := Below 0 w w' ∧ ∀ k, k < w.heap.size → ¬ S k → w'.heap[k]? = w.heap[k]?
theorem BelS.refl (S : Nat → Prop) (w : World) : BelS S w w := ⟨Below.refl _ _, fun _ _ _ => rfl⟩
theorem BelS.size {S : Nat → Prop} {w w' : World} (h : BelS S w w') : w.heap.size ≤ w'.heap.size := h.1.size
theorem BelS.trans {S : Nat → Prop} {a b c : World} (h : BelS S a b) (k : BelS S b c) : BelS S a c :=
  ⟨h.1.trans k.1, fun i hi hD => (k.2 i (Nat.lt_of_lt_of_le hi h.size) hD).trans (h.2 i hi hD)⟩
theorem BelS.mono {S S' : Nat → Prop} {w w' : World} (h : BelS S w w') (hs : ∀ k, k < w.heap.size → S k → S' k) : BelS S' w w' := ⟨h.1, fun k hk hn => h.2 k hk fun hS => hn (hs k hk hS)⟩
theorem Ext.belS {S : Nat → Prop} {w w' : World} (h : Ext w w') : BelS S w w' := ⟨Below.mono h (Nat.zero_le _), fun k hk _ => Below.block h k hk⟩
theorem Bel.belS {S : Nat → Prop} {D : Nat} {w w' : World} (h : Bel D w w') (hD : S D) : BelS S w w' := ⟨h.1, fun k hk hn => h.2 k hk (fun e => hn (by rw [e]; exact hD))⟩
theorem BelS.bel {S : Nat → Prop} {D : Nat} {w w' : World} (h : BelS S w w') (hD : ∀ k, k < w.heap.size → S k → k = D) : Bel D w w' := ⟨h.1, fun k hk hn => h.2 k hk (fun e => hn (hD k hk e))⟩
theorem BelS.ext {S : Nat → Prop} {w w' : World} (h : BelS S w w') (hS : ∀ k, k < w.heap.size → ¬ S k) : Ext w w' := by
  obtain ⟨⟨h1, h2, h3, h4, h5⟩, h6⟩ := h
  exact ⟨h1, h2, h3, h4, fun k hk => h6 k hk (hS k hk)⟩
theorem BelS.setCell {S : Nat → Prop} {a w : World} (h : BelS S a w) (p : Addr) (u : Value) (hp : S p.block) : BelS S a (w.setCell p u) :=
  h.trans ⟨(Below.refl 0 w).setCell (Nat.zero_le _) u, fun k _ hD => heap_setCell_ne _ _ _ _ (fun e => hD (by rw [e]; exact hp))⟩
theorem BelS.drewN {S : Nat → Prop} {a w : World} (h : BelS S a w) (n : Nat) : BelS S a (w.drewN n) := h.trans (Ext.belS (Ext.drewN (Ext.refl _) n))
theorem BelS.drew {S : Nat → Prop} {a w : World} (h : BelS S a w) : BelS S a w.drew := h.trans (Ext.belS (Ext.drew (Ext.refl _)))
theorem BelS.alloc {S : Nat → Prop} {a w : World} (h : BelS S a w) (o : Obj) : BelS S a (w.alloc o) := h.trans (Ext.belS (Ext.alloc (Ext.refl _) o))
theorem BelS.grown {S : Nat → Prop} {a w w' : World} {row : Option Nat} (h : BelS S a w) (hg : w.grownBy w' row) (hr : ∀ k, row = some k → S k) : BelS S a w' :=
  h.trans ⟨(Below.refl 0 w).grown hg (Nat.zero_le _) (fun _ _ => Nat.zero_le _), fun k hk hn => hg.block k hk (fun e => hn (hr k e.symm))⟩
theorem BelS.heap {S : Nat → Prop} {w w' : World} (h : BelS S w w') {k : Nat} {o : Obj} (hk : w.heap[k]? = some o) (hn : ¬ S k) : w'.heap[k]? = some o :=
  (h.2 k (Array.getElem?_eq_some_iff.1 hk).1 hn).trans hk
theorem BelS.cell {S : Nat → Prop} {w w' : World} (h : BelS S w w') {p : Addr} {u : Value} (hp : w.cell? p = some u) (hn : ¬ S p.block) : w'.cell? p = some u :=
  (cell_of_heap (h.2 _ (World.block_lt_of_cell? w p hp) hn)).trans hp
theorem BelS.rd {S : Nat → Prop} {w w' : World} (h : BelS S w w') {A : Option Addr} {xs : List Value} (hA : Rd w A xs) (hn : ∀ a, A = some a → ¬ S a.block) : Rd w' A xs := by
  rcases hA with hA | ⟨b, off, rfl, hc⟩
  · exact .inl hA
  · exact .inr ⟨b, off, rfl, fun j u hu => h.cell (hc j u hu) (hn ⟨b, off, none⟩ rfl)⟩
theorem BelS.own {S : Nat → Prop} {w w' : World} (hb : BelS S w w') {base e size n : Nat} {v : Value} {xs : List Value} (h : w.ownsRow base e size v n xs) (hn : ∀ g, v.ownBlock = some g → ¬ S g) : w'.ownsRow base e size v n xs := by
  refine ⟨h.1, ?_⟩
  rcases h.2 with h | ⟨g, cap, cur, rfl, h1, h2, h3⟩
  · exact .inl h
  · exact .inr ⟨g, cap, cur, rfl, h1, hb.heap h2 (hn g rfl), h3⟩
theorem Bel.rd {D : Nat} {w w' : World} (h : Bel D w w') {A : Option Addr} {xs : List Value} (hA : Rd w A xs) (hn : ∀ a, A = some a → a.block ≠ D) : Rd w' A xs := (h.belS (S := fun k => k = D) rfl).rd hA hn
theorem Bel.own {D : Nat} {w w' : World} (hb : Bel D w w') {base e size n : Nat} {v : Value} {xs : List Value} (h : w.ownsRow base e size v n xs) (hn : ∀ g, v.ownBlock = some g → g ≠ D) : w'.ownsRow base e size v n xs := (hb.belS (S := fun k => k = D) rfl).own h hn
theorem Bel.setNew {D : Nat} {a w : World} (h : Bel D a w) (p : Addr) (u : Value) (hp : a.heap.size ≤ p.block) : Bel D a (w.setCell p u) :=
  ⟨h.1.trans ((Below.refl 0 w).setCell (Nat.zero_le _) u), fun k hk hD => (heap_setCell_ne _ _ _ _ (by omega)).trans (h.2 k hk hD)⟩
theorem Bel.drew {D : Nat} {a w : World} (h : Bel D a w) : Bel D a w.drew := h.trans (Ext.bel (Ext.drew (Ext.refl _)))
theorem Bel.then_ {S : Nat → Prop} {D : Nat} {a b c : World} (h : Bel D a b) (k : BelS S b c) (hS : ∀ i, i < a.heap.size → S i → i = D) : Bel D a c :=
  ⟨h.1.trans k.1, fun i hi hD => (k.2 i (Nat.lt_of_lt_of_le hi h.size) (fun e => hD (hS i hi e))).trans (h.2 i hi hD)⟩
theorem BelS.then_ {S S' : Nat → Prop} {a b c : World} (h : BelS S' a b) (k : BelS S b c) (hS : ∀ i, i < a.heap.size → S i → S' i) : BelS S' a c :=
  ⟨h.1.trans k.1, fun i hi hD => (k.2 i (Nat.lt_of_lt_of_le hi h.size) (fun e => hD (hS i hi e))).trans (h.2 i hi hD)⟩
end Go.Proofs.YtlonpgbapiemcaaGreat

namespace Go.Proofs.YtlonpgbapiemcaaGreat
open Go Go.RowKit
set_option linter.unusedVariables false
set_option linter.unusedSimpArgs false

theorem wp_append_rd2 {P : Program} (w : World) {o : Oper} {a : Act} {K : Act → World → Prop} {Q : Exit → Act → World → Prop} (s x : Operand) (t : TypeId)
    (ho : o.op = .call { callee := .builtin .append, args := #[s, x], argTypes := #[t, t] }) {e : TypeId} {size bytes : Nat} (E : ElemOK P t e size bytes) (base : Nat)
    (v : Value) (n : Nat) (xs : List Value) (hs : a.eval s = v) (hown : w.ownsRow base e size v n xs) (A : Option Addr) (m c : Nat) (news : List Value) (hx : a.eval x = .slice A m c)
    (hl : news.length = m * size) (hr : Rd w A news) (h1 : ∀ u ∈ news, u.oneCell' = true) (hbytes : (n + m) * bytes ≤ 140737488355328) (hbase : base ≤ w.heap.size)
    (h : ∀ A' c' w', w'.ownsRow base e size (.slice A' (n + m) c') (n + m) (xs ++ news) → Below base w w' → w.grownBy w' v.ownBlock → ((Value.slice A' (n + m) c').ownBlock = v.ownBlock ∨ (Value.slice A' (n + m) c').ownBlock = some w.heap.size) → K (a.put o.dst (.slice A' (n + m) c')) w') : o.wp P a w K Q := by
  obtain ⟨v', w', hrun, h2, h3, h4, h5⟩ := run_append_rd (P := P) w t o.type e size bytes E base v n xs hown A m c news hl hr h1 hbytes hbase
  obtain ⟨A', c', rfl⟩ := own_slice h2
  unfold Oper.wp execOp
  simp only [ho, resolve, invoke, builtin, Sem.run_bind, Sem.run_pure, Result.andThen_ok, List.map_toArray, List.map_cons, List.map_nil, hs, hx, hrun]
  have hB : Below base w w' := (Below.refl base w).grown h3 hbase (fun k hk => (hown.lt k hk).1)
  exact h A' c' w' h2 hB h3 h5
theorem wpList_append_rd2 {P : Program} (w : World) {ops : Array Oper} {rest : List Oper} {o : Oper} {a : Act} {Q : Exit → Act → World → Prop} (hgd : o.guard = none) (s x : Operand) (t : TypeId)
    (ho : o.op = .call { callee := .builtin .append, args := #[s, x], argTypes := #[t, t] }) {e : TypeId} {size bytes : Nat} (E : ElemOK P t e size bytes) (base : Nat)
    (v : Value) (n : Nat) (xs : List Value) (hs : a.eval s = v) (hown : w.ownsRow base e size v n xs) (A : Option Addr) (m c : Nat) (news : List Value) (hx : a.eval x = .slice A m c)
    (hl : news.length = m * size) (hr : Rd w A news) (h1 : ∀ u ∈ news, u.oneCell' = true) (hbytes : (n + m) * bytes ≤ 140737488355328) (hbase : base ≤ w.heap.size)
    (h : ∀ A' c' w', w'.ownsRow base e size (.slice A' (n + m) c') (n + m) (xs ++ news) → Below base w w' → w.grownBy w' v.ownBlock → ((Value.slice A' (n + m) c').ownBlock = v.ownBlock ∨ (Value.slice A' (n + m) c').ownBlock = some w.heap.size) → wpList P ops Q rest (a.put o.dst (.slice A' (n + m) c')) w') : wpList P ops Q (o :: rest) a w :=
  wpList_plain hgd fun _ hK => wp_append_rd2 w s x t ho E base v n xs hs hown A m c news hx hl hr h1 hbytes hbase fun A' c' w' h2 h3 h4 h5 => hK _ _ (h A' c' w' h2 h3 h4 h5)

theorem own_block_lt {w : World} {base e size n : Nat} {A : Option Addr} {c : Nat} {xs : List Value} (h : w.ownsRow base e size (.slice A n c) n xs) : ∀ a, A = some a → base ≤ a.block ∧ a.block < w.heap.size := by
  intro a ha
  subst ha
  exact h.lt a.block rfl
theorem slice_own {A : Option Addr} {n c g : Nat} (h : (Value.slice A n c).ownBlock = some g) : ∃ a, A = some a ∧ a.block = g := by
  cases A with
  | none => cases h
  | some a => exact ⟨a, rfl, by simpa [Value.ownBlock] using h⟩
end Go.Proofs.YtlonpgbapiemcaaGreat

namespace Go.Proofs.YtlonpgbapiemcaaGreat
open Go Go.RowKit
set_option linter.unusedVariables false
set_option linter.unusedSimpArgs false

section
variable {P : Program}

theorem run_loadVar_cells (w : World) (ty : TypeId) (p : Addr) (cs : List Value) (d : TypeDesc) (h : ∀ j v, cs[j]? = some v → w.cell? (p.add j) = some v)
    (hu : P.underlying ty = some d) (hd : (match d with | .struct _ | .array _ _ => true | _ => false) = true) (hi : (P.info? ty).map (·.size) = some cs.length) :
    (loadVar ty p).run P w = .ok (.agg cs.toArray) w := by
  have hl := run_loadCells_list (P := P) w p cs h
  cases hq : P.info? ty with
  | none => simp [hq] at hi
  | some i =>
    have hs : i.size = cs.length := by simpa [hq] using hi
    have hagg : (isAgg ty).run P w = .ok true w := by
      unfold isAgg
      rw [Sem.run_bind, run_underlying hu w]
      cases d <;> simp_all
    simp [loadVar, Sem.run_bind, hagg, sizeOf, typeInfo, hq, hs, hl]

/-- An operation that loads a whole array. -/
theorem run_load_cells (w : World) {o : Oper} (ρ : Operand → Value) (ty : TypeId) (x : Operand) (ho : o.op = .load ty x) (p : Addr) (hx : ρ x = .pointer (some p)) (cs : List Value) (d : TypeDesc)
    (h : ∀ j v, cs[j]? = some v → w.cell? (p.add j) = some v)
    (hu : P.underlying ty = some d) (hd : (match d with | .struct _ | .array _ _ => true | _ => false) = true) (hi : (P.info? ty).map (·.size) = some cs.length) :
    (execOp ρ o).run P w = .ok (.value (.agg cs.toArray)) w := by
  unfold execOp
  simp only [ho, hx, Instr.loadAt, Instr.sureAddr, Sem.run_bind, Sem.run_pure, Result.andThen_ok, run_loadVar_cells w ty p cs d h hu hd hi]

theorem wpList_load_cells {ops : Array Oper} {rest : List Oper} {o : Oper} {a : Act} {w : World} {Q : Exit → Act → World → Prop} (hgd : o.guard = none) (ty : TypeId) (x : Operand) (ho : o.op = .load ty x)
    (p : Addr) (hx : a.eval x = .pointer (some p)) (cs : List Value) (d : TypeDesc) (h : ∀ j v, cs[j]? = some v → w.cell? (p.add j) = some v)
    (hu : P.underlying ty = some d) (hd : (match d with | .struct _ | .array _ _ => true | _ => false) = true) (hi : (P.info? ty).map (·.size) = some cs.length)
    (hn : wpList P ops Q rest (a.put o.dst (.agg cs.toArray)) w) : wpList P ops Q (o :: rest) a w :=
  wpList_plain hgd fun _ hK => by
    unfold Oper.wp
    rw [run_load_cells w a.eval ty x ho p hx cs d h hu hd hi]
    exact hK _ _ hn

/-! ### '==' -/
theorem run_part_int (w : World) (e : TypeId) (k : IntKind) (he : P.underlying e = some (.int k)) (xs : List Int) (i : Nat) (x : Int) (h : xs[i]? = some x) :
    (part e (xs.map (Value.int k)).toArray i).run P w = .ok (.int k x) w := by
  have hagg : (isAgg e).run P w = .ok false w := by
    unfold isAgg
    rw [Sem.run_bind, run_underlying he w]
    simp
  simp [part, Sem.run_bind, hagg, h]

theorem eqItems_ints (w : World) (d : Nat) (e : TypeId) (k : IntKind) (he : P.underlying e = some (.int k)) (xs ys : List Int) : ∀ (is : List Nat), (∀ i ∈ is, i < xs.length ∧ i < ys.length) →
    (Op.eqItems (d + 1) e 1 (xs.map (Value.int k)).toArray (ys.map (Value.int k)).toArray is).run P w = .ok (is.all fun i => xs[i]? == ys[i]?) w
  | [], _ => by simp [Op.eqItems]
  | i :: is, h => by
    obtain ⟨h1, h2⟩ := h i (by simp)
    have hx : xs[i]? = some xs[i] := List.getElem?_eq_getElem h1
    have hy : ys[i]? = some ys[i] := List.getElem?_eq_getElem h2
    have ih := eqItems_ints w d e k he xs ys is (fun j hj => h j (by simp [hj]))
    unfold Op.eqItems
    simp only [Nat.mul_one, Sem.run_bind, run_part_int w e k he xs i _ hx, run_part_int w e k he ys i _ hy, Result.andThen_ok, run_equalIn_int w d e k k _ _ he, List.all_cons, hx, hy]
    cases hq : (xs[i] == ys[i])
    · have : (some xs[i] == some ys[i]) = false := by simpa using hq
      simp [this]
    · have : (some xs[i] == some ys[i]) = true := by simpa using hq
      simp [this, ih]

theorem all_range_eq (xs ys : List Int) (h : xs.length = ys.length) : ((List.range xs.length).all fun i => xs[i]? == ys[i]?) = (xs == ys) := by
  rw [Bool.eq_iff_iff]
  simp only [List.all_eq_true, List.mem_range, beq_iff_eq]
  constructor
  · intro hh
    apply List.ext_getElem? fun i => ?_
    rcases Nat.lt_or_ge i xs.length with hi | hi
    · exact hh i hi
    · rw [List.getElem?_eq_none hi, List.getElem?_eq_none (by omega)]
  · rintro rfl i _; rfl

/-- '==' of two arrays of numbers. -/
theorem run_equalIn_arr1 (w : World) (d : Nat) (t e : TypeId) (k : IntKind) (n : Nat) (ht : P.underlying t = some (.array n e)) (he : P.underlying e = some (.int k)) (hi : (P.info? e).isSome = true) (hc : P.cellsOf e = 1)
    (xs ys : List Int) (hx : xs.length = n) (hy : ys.length = n) : (Op.equalIn (d + 2) t (.agg (xs.map (Value.int k)).toArray) (.agg (ys.map (Value.int k)).toArray)).run P w = .ok (xs == ys) w := by
  obtain ⟨i, hi⟩ := Option.isSome_iff_exists.1 hi
  rw [run_equalIn_array (w := w) (d + 1) _ _ ht hi, hc, eqItems_ints w d e k he xs ys _ (fun i hi => by simp at hi; omega), ← hx, all_range_eq xs ys (by omega)]

def rowOf (m : Nat) (xs : List Int) (i : Nat) : List Int := (xs.drop (i * m)).take m
theorem rowOf_len (m n : Nat) (xs : List Int) (hx : xs.length = n * m) (i : Nat) (hi : i < n) : (rowOf m xs i).length = m := by
  have h1 : i * m + m ≤ n * m := by
    have := Nat.mul_le_mul_right m (show i + 1 ≤ n by omega)
    rw [Nat.add_mul] at this; omega
  simp [rowOf, hx]; omega

theorem run_part_row (w : World) (t2 e : TypeId) (k : IntKind) (m : Nat) (ht2 : P.underlying t2 = some (.array m e)) (hi2 : (P.info? t2).isSome = true) (hc2 : P.cellsOf t2 = m) (xs : List Int) (i : Nat) :
    (part t2 (xs.map (Value.int k)).toArray (i * m)).run P w = .ok (.agg ((rowOf m xs i).map (Value.int k)).toArray) w := by
  have hagg : (isAgg t2).run P w = .ok true w := by
    unfold isAgg
    rw [Sem.run_bind, run_underlying ht2 w]
    simp
  obtain ⟨inf, hinf⟩ := Option.isSome_iff_exists.1 hi2
  simp only [part, Sem.run_bind, hagg, Result.andThen_ok, if_true, run_sizeOf w hinf, hc2, Sem.run_pure]
  congr 2
  simp [rowOf, List.map_drop, List.map_take, List.extract_eq_take_drop]

theorem rows_eq (m : Nat) (xs ys : List Int) : ∀ n, xs.length = n * m → ys.length = n * m → ((List.range n).all fun i => rowOf m xs i == rowOf m ys i) = (xs == ys) := by
  intro n hx hy
  rw [Bool.eq_iff_iff]
  simp only [List.all_eq_true, List.mem_range, beq_iff_eq]
  constructor
  · intro hh
    rcases Nat.eq_zero_or_pos m with hm | hm
    · subst hm; simp at hx hy; rw [hx, hy]
    · apply List.ext_getElem? fun j => ?_
      rcases Nat.lt_or_ge j xs.length with hj | hj
      · have hq : j / m < n := Nat.div_lt_of_lt_mul (by rw [Nat.mul_comm]; omega)
        have hr := congrArg (fun l => l[j % m]?) (hh (j / m) hq)
        have hmod : j % m < m := Nat.mod_lt _ hm
        have hdj : j / m * m + j % m = j := by rw [Nat.mul_comm]; exact Nat.div_add_mod j m
        simp only [rowOf, List.getElem?_take, hmod, if_true, List.getElem?_drop, hdj] at hr
        exact hr
      · rw [List.getElem?_eq_none hj, List.getElem?_eq_none (by omega)]
  · rintro rfl i _; rfl

theorem eqItems_rows (w : World) (d : Nat) (t2 e : TypeId) (k : IntKind) (n m : Nat) (ht2 : P.underlying t2 = some (.array m e)) (hi2 : (P.info? t2).isSome = true) (hc2 : P.cellsOf t2 = m) (he : P.underlying e = some (.int k)) (hi : (P.info? e).isSome = true) (hc : P.cellsOf e = 1)
    (xs ys : List Int) (hx : xs.length = n * m) (hy : ys.length = n * m) : ∀ (is : List Nat), (∀ i ∈ is, i < n) →
    (Op.eqItems (d + 2) t2 m (xs.map (Value.int k)).toArray (ys.map (Value.int k)).toArray is).run P w = .ok (is.all fun i => rowOf m xs i == rowOf m ys i) w
  | [], _ => by simp [Op.eqItems]
  | i :: is, h => by
    have ih := eqItems_rows w d t2 e k n m ht2 hi2 hc2 he hi hc xs ys hx hy is (fun j hj => h j (by simp [hj]))
    have hin := h i (by simp)
    unfold Op.eqItems
    simp only [Sem.run_bind, run_part_row w t2 e k m ht2 hi2 hc2, Result.andThen_ok, run_equalIn_arr1 w d t2 e k m ht2 he hi hc _ _ (rowOf_len m n xs hx i hin) (rowOf_len m n ys hy i hin), List.all_cons]
    cases hq : (rowOf m xs i == rowOf m ys i)
    · simp
    · simp [ih]

/-- '==' of two arrays of arrays of numbers. -/
theorem run_equalIn_arr2 (w : World) (d : Nat) (t t2 e : TypeId) (k : IntKind) (n m : Nat) (ht : P.underlying t = some (.array n t2)) (ht2 : P.underlying t2 = some (.array m e)) (hi2 : (P.info? t2).isSome = true) (hc2 : P.cellsOf t2 = m) (he : P.underlying e = some (.int k)) (hi : (P.info? e).isSome = true) (hc : P.cellsOf e = 1)
    (xs ys : List Int) (hx : xs.length = n * m) (hy : ys.length = n * m) : (Op.equalIn (d + 3) t (.agg (xs.map (Value.int k)).toArray) (.agg (ys.map (Value.int k)).toArray)).run P w = .ok (xs == ys) w := by
  obtain ⟨inf, hinf⟩ := Option.isSome_iff_exists.1 hi2
  rw [run_equalIn_array (w := w) (d + 2) _ _ ht hinf, hc2, eqItems_rows w d t2 e k n m ht2 hi2 hc2 he hi hc xs ys hx hy _ (fun i hi => by simpa using hi), rows_eq m xs ys n hx hy]

/-- The operation '==' over two arrays. -/
theorem run_eql_op (w : World) {o : Oper} (ρ : Operand → Value) (t ty : TypeId) (x y : Operand) (ho : o.op = .binOp .eql t x y ty) (xs ys : Array Value) (hx : ρ x = .agg xs) (hy : ρ y = .agg ys) (b : Bool)
    (hg : P.eqGuardType P.depth t = false) (he : (Op.equalIn 10000 t (.agg xs) (.agg ys)).run P w = .ok b w) : (execOp ρ o).run P w = .ok (.value (.bool b)) w := by
  unfold execOp
  simp only [ho, hx, hy, Sem.run_bind, run_eqGuard_agg w .eql t x y xs ys hg, Result.andThen_ok, run_eql_struct w t xs ys, he, Sem.run_pure]
end
end Go.Proofs.YtlonpgbapiemcaaGreat

namespace Go.Proofs.YtlonpgbapiemcaaGreat
open Go
set_option linter.unusedVariables false
set_option linter.unusedSimpArgs false

section
variable {P : Program} {ops : Array Oper} {md : Region.Mode} {E : World → World → Prop} {C : World → Prop} {T : Nat → Option (Value → World → Prop)}

/-- What an operation, carried out in w, may come to: a value of which R holds, in a world that E leads to. -/
def opensUpon (P : Program) (E : World → World → Prop) (w : World) (R : Value → World → Prop) : Result Next → Prop
  | .ok (.value u) w' => E w w' ∧ R u w'
  | .ok .skip w' => E w w' ∧ R undef w'
  | .ok (.enter f args) w' => Calls P f args w' (fun e w'' => ∃ v, e = .returned v ∧ E w w'' ∧ R v w'')
  | _ => False
def opens (P : Program) (E : World → World → Prop) (o : Oper) (a : Act) (D : World → Prop) (R : Value → World → Prop) : Prop :=
  ∀ w, D w → opensUpon P E w R ((execOp a.eval o).run P w)

theorem opens_mono {o : Oper} {a : Act} {D D' : World → Prop} {R R' : Value → World → Prop} (h : opens P E o a D R) (hD : ∀ w, D' w → D w) (hR : ∀ v w, R v w → R' v w) : opens P E o a D' R' := by
  intro w hw
  have := h w (hD w hw)
  generalize (execOp a.eval o).run P w = r at *
  cases r with
  | ok n w' =>
    cases n <;> simp only [opensUpon] at this ⊢
    case value => exact ⟨this.1, hR _ _ this.2⟩
    case skip => exact ⟨this.1, hR _ _ this.2⟩
    case enter f args => exact this.mono fun e w'' ⟨v, he, h1, h2⟩ => ⟨v, he, h1, hR _ _ h2⟩
  | halt x w' => simp only [opensUpon] at this

/-- There is such a value. -/
theorem opens_some {o : Oper} {a : Act} {D : World → Prop} {R : Value → World → Prop} (h : opens P E o a D R) {w : World} (hw : D w) : ∃ v w', E w w' ∧ R v w' := by
  have := h w hw
  generalize (execOp a.eval o).run P w = r at *
  cases r with
  | ok n w' =>
    cases n <;> simp only [opensUpon] at this
    case value u => exact ⟨u, w', this⟩
    case skip => exact ⟨undef, w', this⟩
    case enter f args =>
      obtain ⟨e, w'', _, ⟨v, _, h1, h2⟩, _⟩ := this []
      exact ⟨v, w'', h1, h2⟩
  | halt x w' => simp only [opensUpon] at this

theorem wp_of_opens {o : Oper} {a : Act} {D : World → Prop} {R : Value → World → Prop} {K' : Act → World → Prop} {Q' : Exit → Act → World → Prop} {w : World} (h : opens P E o a D R) (hw : D w)
    (hK : ∀ v w', E w w' → R v w' → K' (a.put o.dst v) w') : o.wp P a w K' Q' := by
  have := h w hw
  unfold Oper.wp
  generalize (execOp a.eval o).run P w = r at *
  cases r with
  | ok n w' =>
    cases n <;> simp only [opensUpon] at this <;> simp only [Oper.upon]
    case value u => exact hK _ _ this.1 this.2
    case skip => exact hK _ _ this.1 this.2
    case enter f args => exact this.mono fun e w'' ⟨v, he, h1, h2⟩ => by subst he; exact hK _ _ h1 h2
  | halt x w' => simp only [opensUpon] at this

/-- No call, and one value in every world of the class. -/
def still1 (P : Program) (E : World → World → Prop) (o : Oper) (a : Act) (D : World → Prop) (u : Value) : Prop :=
  ∀ w, D w → match (execOp a.eval o).run P w with
    | .ok (.value u') w' => E w w' ∧ u' = u
    | .ok .skip w' => E w w' ∧ u = undef
    | _ => False
theorem still1.opens {o : Oper} {a : Act} {D : World → Prop} {u : Value} (h : still1 P E o a D u) : opens P E o a D (fun v _ => v = u) := by
  intro w hw
  have := h w hw
  generalize (execOp a.eval o).run P w = r at *
  cases r with
  | ok n w' =>
    cases n <;> simp only [opensUpon] at this ⊢
    case value => exact this
    case skip => exact ⟨this.1, this.2.symm⟩
  | halt x w' => exact this.elim
theorem still1.uniq {o : Oper} {a : Act} {D : World → Prop} {u u' : Value} (h : still1 P E o a D u) (h' : still1 P E o a D u') {w : World} (hw : D w) : u = u' := by
  have h1 := h w hw
  have h2 := h' w hw
  generalize (execOp a.eval o).run P w = r at *
  cases r with
  | ok n w' =>
    cases n <;> simp only at h1 h2
    case value => exact h1.2.symm.trans h2.2
    case skip => exact h1.2.trans h2.2.symm
  | halt x w' => exact h1.elim

/-- What is known of the worlds behind each operation. -/
abbrev Facts := Nat → World → Prop
def Facts.set (F : Facts) (i : Nat) (φ : World → Prop) : Facts := fun k => if k = i then φ else F k
theorem Facts.set_same (F : Facts) (i : Nat) (φ : World → Prop) : F.set i φ i = φ := by simp [Facts.set]
theorem Facts.set_ne (F : Facts) {i k : Nat} (φ : World → Prop) (h : k ≠ i) : F.set i φ k = F k := by simp [Facts.set, h]
theorem Facts.set_comm (F : Facts) {i j : Nat} (φ ψ : World → Prop) (h : i ≠ j) : (F.set i φ).set j ψ = (F.set j ψ).set i φ := by
  funext k
  unfold Facts.set
  by_cases h1 : k = j <;> by_cases h2 : k = i
  · exact absurd (h2.symm.trans h1) h
  · simp [h1]
    intro h3
    exact absurd h3.symm h
  · simp [h2, h]
  · simp [h1, h2]

/-- What an operation may lean on: the base, and what is known behind the operations that it waits for. -/
def depC (md : Region.Mode) (C : World → Prop) (o : Oper) (F : Facts) : World → Prop := fun w => C w ∧ ∀ e ∈ o.after, Region.binds md e = true → F e.on w
theorem depC.get {o : Oper} {F : Facts} {w : World} (h : depC md C o F w) (n : Nat) (hn : (o.after.any fun e => Region.binds md e && e.on == n) = true) : F n w := by
  obtain ⟨e, he, hb⟩ := Array.any_eq_true'.1 hn
  simp only [Bool.and_eq_true, beq_iff_eq] at hb
  have := h.2 e he hb.1
  rwa [hb.2] at this
theorem depC_set {o : Oper} {F : Facts} {i : Nat} {φ : World → Prop} (h : ∀ e ∈ o.after, Region.binds md e = true → e.on ≠ i) : depC md C o (F.set i φ) = depC md C o F := by
  funext w
  refine propext ⟨fun ⟨h1, h2⟩ => ⟨h1, fun e he hb => ?_⟩, fun ⟨h1, h2⟩ => ⟨h1, fun e he hb => ?_⟩⟩
  · have := h2 e he hb; rwa [Facts.set_ne F φ (h e he hb)] at this
  · rw [Facts.set_ne F φ (h e he hb)]; exact h2 e he hb

def Up (E : World → World → Prop) (φ : World → Prop) : Prop := ∀ w w', φ w → E w w' → φ w'
theorem depC_up {o : Oper} {F : Facts} (hC : Up E C) (hF : ∀ k, Up E (F k)) : Up E (depC md C o F) := fun w w' h he => ⟨hC w w' h.1 he, fun e h1 h2 => hF e.on w w' (h.2 e h1 h2) he⟩
theorem set_up {F : Facts} {i : Nat} {φ : World → Prop} (hF : ∀ k, Up E (F k)) (hφ : Up E φ) : ∀ k, Up E (F.set i φ k) := by
  intro k
  unfold Facts.set
  split
  · exact hφ
  · exact hF k

/-- One operation that is carried out. -/
def actM (P : Program) (md : Region.Mode) (E : World → World → Prop) (C : World → Prop) (t : Option (Value → World → Prop)) (o : Oper) (a : Act) (F : Facts) (K : Value → (World → Prop) → Prop) : Prop :=
  match t with
  | none => ∃ u, still1 P E o a (depC md C o F) u ∧ K u (depC md C o F)
  | some R => opens P E o a (depC md C o F) R ∧ ∀ v, (∃ w, C w ∧ (∀ k, F k w) ∧ R v w) → K v (fun w => depC md C o F w ∧ R v w)

/-- Operation number i comes up. -/
def opM (P : Program) (md : Region.Mode) (ops : Array Oper) (E : World → World → Prop) (C : World → Prop) (T : Nat → Option (Value → World → Prop)) (i : Nat) (K : Act → Facts → Prop) (a : Act) (F : Facts) : Prop :=
  match ops[i]? with
  | none => K a F
  | some o => if Region.wanted o (yielded ops a.tmps) then actM P md E C (T i) o a F fun v φ => K (a.put o.dst v) (F.set i φ) else K (a.put o.dst undef) F

/-- The walk of the text's order. -/
def wpM (P : Program) (md : Region.Mode) (ops : Array Oper) (E : World → World → Prop) (C : World → Prop) (T : Nat → Option (Value → World → Prop)) (Q : Act → Facts → Prop) : List Oper → Nat → Act → Facts → Prop
  | [], _, a, F => Q a F
  | o :: rest, k, a, F => if Region.wanted o (yielded ops a.tmps) then actM P md E C (T k) o a F fun v φ => wpM P md ops E C T Q rest (k + 1) (a.put o.dst v) (F.set k φ) else wpM P md ops E C T Q rest (k + 1) (a.put o.dst undef) F

/-- Whatever order is picked, as long as operations below n are left. -/
def wpAnyM (P : Program) (md : Region.Mode) (ops : Array Oper) (E : World → World → Prop) (C : World → Prop) (T : Nat → Option (Value → World → Prop)) (n : Nat) (L : Array Bool → Act → Facts → Prop) : Nat → Array Bool → Act → Facts → Prop
  | 0, listed, a, F => L listed a F
  | f + 1, listed, a, F => Region.ready md ops listed ≠ [] ∧ ∀ i ∈ Region.ready md ops listed, i < n ∧ opM P md ops E C T i (wpAnyM P md ops E C T n L f (listed.setIfInBounds i true)) a F

theorem actM_mono {t : Option (Value → World → Prop)} {o : Oper} {a : Act} {F : Facts} {K K' : Value → (World → Prop) → Prop} (h : actM P md E C t o a F K)
    (hK : ∀ v φ, K v φ → K' v φ) : actM P md E C t o a F K' := by
  cases t with
  | none => obtain ⟨u, h1, h2⟩ := h; exact ⟨u, h1, hK _ _ h2⟩
  | some R => exact ⟨h.1, fun v hv => hK _ _ (h.2 v hv)⟩

theorem wpAny_of_M {n g : Nat} {L : Array Bool → Act → Facts → Prop} {Q' : Exit → Act → World → Prop} (hC : Up E C) (hT : ∀ i R, T i = some R → ∀ v, Up E (R v))
    (hL : ∀ listed a F w, L listed a F → C w → (∀ k, F k w) → wpAny P md ops Q' g listed a w) :
    ∀ (f : Nat) (listed : Array Bool) (a : Act) (F : Facts) (w : World), (∀ k, Up E (F k)) → C w → (∀ k, F k w) → wpAnyM P md ops E C T n L f listed a F → wpAny P md ops Q' (f + g) listed a w
  | 0, listed, a, F, w, _, hw, hFw, h => by rw [Nat.zero_add]; exact hL _ _ _ _ h hw hFw
  | f + 1, listed, a, F, w, hF, hw, hFw, h => by
    rw [show f + 1 + g = (f + g) + 1 by omega]
    refine ⟨fun h0 => absurd h0 h.1, fun i hi => ?_⟩
    obtain ⟨_, hop⟩ := h.2 i hi
    unfold opM at hop
    unfold wpOp
    split
    · rename_i ho
      simp only [ho] at hop
      exact wpAny_of_M hC hT hL f _ _ _ _ hF hw hFw hop
    · rename_i o ho
      simp only [ho] at hop
      split
      · rename_i hwt
        simp only [hwt, if_true] at hop
        refine .inl ?_
        have hD : depC md C o F w := ⟨hw, fun e _ _ => hFw e.on⟩
        have hDu := depC_up (md := md) (o := o) hC hF
        generalize ht : T i = t at hop
        cases t with
        | none =>
          obtain ⟨u, h1, h2⟩ := hop
          refine wp_of_opens h1.opens hD fun v w' he hv => ?_
          subst hv
          refine wpAny_of_M hC hT hL f _ _ _ _ (set_up hF hDu) (hC _ _ hw he) (fun k => ?_) h2
          unfold Facts.set
          split
          · exact hDu _ _ hD he
          · exact hF k _ _ (hFw k) he
        | some R =>
          obtain ⟨h1, h2⟩ := hop
          refine wp_of_opens h1 hD fun v w' he hv => ?_
          have hFw' : ∀ k, F k w' := fun k => hF k _ _ (hFw k) he
          refine wpAny_of_M hC hT hL f _ _ _ _ (set_up hF fun x y hx hxy => ⟨hDu _ _ hx.1 hxy, hT i R ht v _ _ hx.2 hxy⟩) (hC _ _ hw he) (fun k => ?_) (h2 v ⟨w', hC _ _ hw he, hFw', hv⟩)
          unfold Facts.set
          split
          · exact ⟨hDu _ _ hD he, hv⟩
          · exact hFw' k
      · rename_i hwt
        simp only [hwt] at hop
        exact wpAny_of_M hC hT hL f _ _ _ _ hF hw hFw hop

theorem opM_put {i j : Nat} {oi oj : Oper} {v : Value} {φ : World → Prop} (hj : ops[j]? = some oj) (hij : i ≠ j) (hap : oi.apart ops oj = true) (hno : ∀ e ∈ oj.after, Region.binds md e = true → e.on ≠ i)
    (hsj : ∀ cs b, oj.op ≠ .select cs b) {K : Act → Facts → Prop} {a : Act} {F : Facts} (h : opM P md ops E C T j K (a.put oi.dst v) (F.set i φ)) :
    (Region.wanted oj (yielded ops a.tmps) = true ∧ match T j with
      | none => ∃ u, still1 P E oj a (depC md C oj F) u ∧ K ((a.put oj.dst u).put oi.dst v) ((F.set j (depC md C oj F)).set i φ)
      | some R => opens P E oj a (depC md C oj F) R ∧ ∀ u, (∃ w, C w ∧ (∀ k, (F.set i φ) k w) ∧ R u w) → K ((a.put oj.dst u).put oi.dst v) ((F.set j (fun w => depC md C oj F w ∧ R u w)).set i φ)) ∨
    (Region.wanted oj (yielded ops a.tmps) = false ∧ K ((a.put oj.dst undef).put oi.dst v) (F.set i φ)) := by
  obtain ⟨h1, h2, h3⟩ := Oper.apart_spec hap
  have hex : execOp (a.put oi.dst v).eval oj = execOp a.eval oj := execOp_put oj hsj a oi.dst v h1
  unfold opM at h
  simp only [hj] at h
  rw [wanted_put oj a oi.dst v h1] at h
  by_cases hw : Region.wanted oj (yielded ops a.tmps) = true
  · refine .inl ⟨hw, ?_⟩
    simp only [hw, if_true] at h
    unfold actM at h
    rw [depC_set hno] at h
    split at h
    · obtain ⟨u, hu, hk⟩ := h
      refine ⟨u, ?_, ?_⟩
      · unfold still1 at hu ⊢; rwa [hex] at hu
      · rw [← Act.put_comm a v u h2, Facts.set_comm F _ _ (Ne.symm hij)]; exact hk
    · obtain ⟨hu, hk⟩ := h
      refine ⟨?_, fun u hw' => ?_⟩
      · unfold opens at hu ⊢; rwa [hex] at hu
      · rw [← Act.put_comm a v u h2, Facts.set_comm F _ _ (Ne.symm hij)]; exact hk u hw'
  · refine .inr ⟨by simpa using hw, ?_⟩
    simp only [hw] at h
    rw [← Act.put_comm a v undef h2]; exact h

/-- **An operation that may come up now may be taken first.** -/
theorem wpAnyM_first {n i : Nat} {I : Array Bool → Prop} (hI : ∀ listed i, I listed → i ∈ Region.ready md ops listed → i < n → I (listed.setIfInBounds i true)) {oi : Oper} {L : Array Bool → Act → Facts → Prop} (hC : Up E C) (hT : ∀ i R, T i = some R → ∀ v, Up E (R v)) (hi : ops[i]? = some oi)
    (hsel : ∀ (j : Nat) (o : Oper) cs b, ops[j]? = some o → o.op ≠ .select cs b)
    (hbd : ∀ listed, I listed → ∀ i, i < n → listed.getD i true = false → ∀ t, n ≤ t → t ∉ Region.ready md ops listed) (hin : i < n)
    (hdone : ∀ listed a F, L listed a F → ∀ j ∈ Region.ready md ops listed, n ≤ j) :
    ∀ (f : Nat) (listed : Array Bool) (a : Act) (F : Facts), (∀ k, Up E (F k)) → (∃ w, C w ∧ ∀ k, F k w) → (∀ k, listed.getD k true = false → ∀ w, F k w) → I listed →
      (∀ j oj, ops[j]? = some oj → j ≠ i → listed.getD j true = false → (∀ e ∈ oj.after, Region.binds md e = true → e.on ≠ i) → oi.apart ops oj = true) →
      i ∈ Region.ready md ops listed → opM P md ops E C T i (wpAnyM P md ops E C T n L f (listed.setIfInBounds i true)) a F → wpAnyM P md ops E C T n L (f + 1) listed a F := by
  intro f
  induction f with
  | zero =>
    intro listed a F hF hex _ inv hfree hr H
    have hun := (mem_ready.1 hr).1
    refine ⟨fun h => (by rw [h] at hr; cases hr), fun j hj => ?_⟩
    have hjn : j < n := by
      rcases Nat.lt_or_ge j n with h | h
      · exact h
      · exact absurd hj (hbd _ inv i hin hun j h)
    refine ⟨hjn, ?_⟩
    by_cases hji : j = i
    · subst hji; exact H
    · -- a value of i's shows that nothing below n is left
      exfalso
      have : ∃ a' F', wpAnyM P md ops E C T n L 0 (listed.setIfInBounds i true) a' F' := by
        unfold opM at H
        simp only [hi] at H
        split at H
        · obtain ⟨w, hw, hFw⟩ := hex
          unfold actM at H
          split at H
          · obtain ⟨u, _, h2⟩ := H; exact ⟨_, _, h2⟩
          · obtain ⟨h1, h2⟩ := H
            obtain ⟨v, w', he, hv⟩ := opens_some h1 (w := w) ⟨hw, fun e _ _ => hFw e.on⟩
            exact ⟨_, _, h2 v ⟨w', hC _ _ hw he, fun k => hF k _ _ (hFw k) he, hv⟩⟩
        · exact ⟨_, _, H⟩
      obtain ⟨a', F', hL⟩ := this
      have := hdone _ _ _ hL j (ready_mono hj hji)
      omega
  | succ f ih =>
    intro listed a F hF hex hF0 inv hfree hr H
    have hun := (mem_ready.1 hr).1
    refine ⟨fun h => (by rw [h] at hr; cases hr), fun j hj => ?_⟩
    have hjn : j < n := by
      rcases Nat.lt_or_ge j n with h | h
      · exact h
      · exact absurd hj (hbd _ inv i hin hun j h)
    refine ⟨hjn, ?_⟩
    by_cases hji : j = i
    · subst hji; exact H
    · obtain ⟨hjun, oj, hoj, hall⟩ := mem_ready.1 hj
      have hnot : ∀ e ∈ oj.after, Region.binds md e = true → e.on ≠ i := fun e he hb heq => by
        have h1 := hall e he hb
        rw [heq] at h1
        rw [getD_both hun] at h1
        cases h1
      have hap := hfree j oj hoj hji hjun hnot
      obtain ⟨p1, p2, p3⟩ := Oper.apart_spec hap
      have hsj := fun cs b => hsel j oj cs b hoj
      have hsi := fun cs b => hsel i oi cs b hi
      have inv' := hI _ _ inv hj hjn
      have hfree' : ∀ k ok, ops[k]? = some ok → k ≠ i → (listed.setIfInBounds j true).getD k true = false →
          (∀ e ∈ ok.after, Region.binds md e = true → e.on ≠ i) → oi.apart ops ok = true := fun k ok hk hki hun2 hno => by
        refine hfree k ok hk hki ?_ hno
        by_cases hjk : j = k
        · subst hjk; exact hjun
        · rw [getD_set_ne true hjk] at hun2; exact hun2
      have hri := ready_mono hr (Ne.symm hji)
      have hDu := depC_up (md := md) (o := oj) hC hF
      have hIu := depC_up (md := md) (o := oi) hC hF
      -- what i is at a state in which j has been carried out already
      have hii : ∀ u, execOp (a.put oj.dst u).eval oi = execOp a.eval oi := fun u => execOp_put oi hsi a oj.dst u p3
      have hwi : ∀ u, Region.wanted oi (yielded ops (a.put oj.dst u).tmps) = Region.wanted oi (yielded ops a.tmps) := fun u => wanted_put oi a oj.dst u p3
      -- i does not wait for j: j has not been listed
      have hnoi : ∀ e ∈ oi.after, Region.binds md e = true → e.on ≠ j := fun e he hb heq => by
        obtain ⟨_, o', ho', hall'⟩ := mem_ready.1 hr
        have : o' = oi := Option.some.inj (ho'.symm.trans hi)
        subst this
        have h1 := hall' e he hb
        rw [heq, getD_both hjun] at h1
        cases h1
      have hcomm : (listed.setIfInBounds i true).setIfInBounds j true = (listed.setIfInBounds j true).setIfInBounds i true := Array.setIfInBounds_comm _ _ (Ne.symm hji)
      -- what is not yet listed is not yet known
      have hjlt : j < listed.size := by
        rcases Nat.lt_or_ge j listed.size with h | h
        · exact h
        · simp [Array.getElem?_eq_none h] at hjun
      have hF0' : ∀ φ k, (listed.setIfInBounds j true).getD k true = false → ∀ w, F.set j φ k w := fun φ k hk w => by
        have hkj : j ≠ k := by
          rintro rfl
          simp [hjlt] at hk
        rw [getD_set_ne true hkj] at hk
        rw [Facts.set_ne F φ (Ne.symm hkj)]
        exact hF0 k hk w
      have hF0u : ∀ k, (listed.setIfInBounds j true).getD k true = false → ∀ w, F k w := fun k hk w => by
        have hkj : j ≠ k := by
          rintro rfl
          simp [hjlt] at hk
        rw [getD_set_ne true hkj] at hk
        exact hF0 k hk w
      have unset : ∀ φ w, (∀ k, F.set j φ k w) → ∀ k, F k w := fun φ w h k => by
        by_cases hkj : k = j
        · subst hkj; exact hF0 _ hjun w
        · have := h k; rwa [Facts.set_ne F φ hkj] at this
      have joint : ∀ (φ : World → Prop) w, (∀ k, F k w) → φ w → ∀ k, F.set j φ k w := fun φ w h hφ k => by
        unfold Facts.set
        split
        · exact hφ
        · exact h k
      have jointi : ∀ (φ : World → Prop) w, (∀ k, F k w) → φ w → ∀ k, F.set i φ k w := fun φ w h hφ k => by
        unfold Facts.set
        split
        · exact hφ
        · exact h k
      -- what H says at a value (and a fact) of i's
      have atv : ∀ v φ, wpAnyM P md ops E C T n L (f + 1) (listed.setIfInBounds i true) (a.put oi.dst v) (F.set i φ) →
          opM P md ops E C T j (fun a' F' => wpAnyM P md ops E C T n L f ((listed.setIfInBounds j true).setIfInBounds i true) a' F') (a.put oi.dst v) (F.set i φ) := fun v φ h => by
        have := (h.2 j (ready_mono hj hji)).2
        rw [hcomm] at this
        exact this
      unfold opM
      simp only [hoj]
      unfold opM at H
      simp only [hi] at H
      by_cases hwti : Region.wanted oi (yielded ops a.tmps) = true
      · simp only [hwti, if_true] at H
        cases hti : T i with
        | none =>
          rw [hti] at H
          obtain ⟨u, hu, hk⟩ := H
          have hui : ∀ x, still1 P E oi (a.put oj.dst x) (depC md C oi F) u := fun x => by unfold still1 at hu ⊢; rw [hii]; exact hu
          have hj1 := opM_put (φ := depC md C oi F) hoj (Ne.symm hji) hap hnot hsj (atv u _ hk)
          rcases hj1 with ⟨hwj, hj1⟩ | ⟨hwj, hj1⟩
          · simp only [hwj, if_true]
            unfold actM
            cases htj : T j with
            | none =>
              rw [htj] at hj1
              obtain ⟨uj, h1, h2⟩ := hj1
              refine ⟨uj, h1, ih _ _ _ (set_up hF hDu) ?_ (hF0' _) inv' hfree' hri ?_⟩
              · obtain ⟨w, hw, hFw⟩ := hex
                exact ⟨w, hw, joint _ w hFw ⟨hw, fun e _ _ => hFw e.on⟩⟩
              · unfold opM
                simp only [hi, hwi, hwti, if_true, hti]
                refine ⟨u, ?_, ?_⟩
                · rw [depC_set hnoi]; exact hui _
                · rw [depC_set hnoi]; exact h2
            | some Rj =>
              rw [htj] at hj1
              obtain ⟨h1, h2⟩ := hj1
              refine ⟨h1, fun uj hex' => ih _ _ _ (set_up hF fun x y hx hxy => ⟨hDu _ _ hx.1 hxy, hT j Rj htj uj _ _ hx.2 hxy⟩) ?_ (hF0' _) inv' hfree' hri ?_⟩
              · obtain ⟨w, hw, hFw, hRw⟩ := hex'
                exact ⟨w, hw, joint _ w hFw ⟨⟨hw, fun e _ _ => hFw e.on⟩, hRw⟩⟩
              · unfold opM
                simp only [hi, hwi, hwti, if_true, hti]
                refine ⟨u, ?_, ?_⟩
                · rw [depC_set hnoi]; exact hui _
                · rw [depC_set hnoi]
                  refine h2 uj ?_
                  obtain ⟨w, hw, hFw, hRw⟩ := hex'
                  exact ⟨w, hw, jointi _ w hFw ⟨hw, fun e _ _ => hFw e.on⟩, hRw⟩
          · simp only [hwj]
            refine ih _ _ _ hF hex hF0u inv' hfree' hri ?_
            unfold opM
            simp only [hi, hwi, hwti, if_true, hti]
            exact ⟨u, hui _, hj1⟩
        | some Ri =>
          rw [hti] at H
          obtain ⟨hu, hk⟩ := H
          have hui : ∀ x, opens P E oi (a.put oj.dst x) (depC md C oi F) Ri := fun x => by unfold opens at hu ⊢; rw [hii]; exact hu
          obtain ⟨w0, hw0, hFw0⟩ := hex
          obtain ⟨v0, w0', he0, hv0⟩ := opens_some hu (w := w0) ⟨hw0, fun e _ _ => hFw0 e.on⟩
          have hx0 : ∃ w, C w ∧ (∀ k, F k w) ∧ Ri v0 w := ⟨w0', hC _ _ hw0 he0, fun k => hF k _ _ (hFw0 k) he0, hv0⟩
          have all := fun v hv => opM_put (φ := fun w => depC md C oi F w ∧ Ri v w) hoj (Ne.symm hji) hap hnot hsj (atv v _ (hk v hv))
          have h0 := all v0 hx0
          rcases h0 with ⟨hwj, h0⟩ | ⟨hwj, _⟩
          · simp only [hwj, if_true]
            unfold actM
            cases htj : T j with
            | none =>
              rw [htj] at h0
              obtain ⟨uj, h1, _⟩ := h0
              refine ⟨uj, h1, ih _ _ _ (set_up hF hDu) ⟨w0, hw0, joint _ w0 hFw0 ⟨hw0, fun e _ _ => hFw0 e.on⟩⟩ (hF0' _) inv' hfree' hri ?_⟩
              unfold opM
              simp only [hi, hwi, hwti, if_true, hti]
              refine ⟨by rw [depC_set hnoi]; exact hui _, fun v hv => ?_⟩
              rw [depC_set hnoi]
              obtain ⟨w, hw, hFw, hRw⟩ := hv
              have hFw' := unset _ w hFw
              rcases all v ⟨w, hw, hFw', hRw⟩ with ⟨_, h⟩ | ⟨hwj', _⟩
              · rw [htj] at h
                obtain ⟨uj', h1', h2'⟩ := h
                have : uj' = uj := h1'.uniq h1 (w := w) ⟨hw, fun e _ _ => hFw' e.on⟩
                subst this
                exact h2'
              · rw [hwj] at hwj'; cases hwj'
            | some Rj =>
              rw [htj] at h0
              obtain ⟨h1, _⟩ := h0
              refine ⟨h1, fun uj hex' => ?_⟩
              obtain ⟨w1, hw1, hFw1, hRw1⟩ := hex'
              refine ih _ _ _ (set_up hF fun x y hx hxy => ⟨hDu _ _ hx.1 hxy, hT j Rj htj uj _ _ hx.2 hxy⟩) ⟨w1, hw1, joint _ w1 hFw1 ⟨⟨hw1, fun e _ _ => hFw1 e.on⟩, hRw1⟩⟩ (hF0' _) inv' hfree' hri ?_
              unfold opM
              simp only [hi, hwi, hwti, if_true, hti]
              refine ⟨by rw [depC_set hnoi]; exact hui _, fun v hv => ?_⟩
              rw [depC_set hnoi]
              obtain ⟨w, hw, hFw, hRw⟩ := hv
              have hFw' := unset _ w hFw
              have hjw : depC md C oj F w ∧ Rj uj w := by have := hFw j; rwa [Facts.set_same] at this
              rcases all v ⟨w, hw, hFw', hRw⟩ with ⟨_, h⟩ | ⟨hwj', _⟩
              · rw [htj] at h
                exact h.2 uj ⟨w, hw, jointi _ w hFw' ⟨⟨hw, fun e _ _ => hFw' e.on⟩, hRw⟩, hjw.2⟩
              · rw [hwj] at hwj'; cases hwj'
          · simp only [hwj]
            refine ih _ _ _ hF ⟨w0, hw0, hFw0⟩ hF0u inv' hfree' hri ?_
            unfold opM
            simp only [hi, hwi, hwti, if_true, hti]
            refine ⟨hui _, fun v hv => ?_⟩
            rcases all v hv with ⟨hwj', _⟩ | ⟨_, h⟩
            · rw [hwj] at hwj'; cases hwj'
            · exact h
      · simp only [hwti] at H
        have hj1 := (H.2 j (ready_mono hj hji)).2
        rw [hcomm] at hj1
        have hj2 : opM P md ops E C T j (fun a' F' => wpAnyM P md ops E C T n L f ((listed.setIfInBounds j true).setIfInBounds i true) a' F') (a.put oi.dst undef) (F.set i (F i)) := by
          have : F.set i (F i) = F := by funext k; unfold Facts.set; split <;> simp_all
          rw [this]; exact hj1
        have hj3 := opM_put (φ := F i) hoj (Ne.symm hji) hap hnot hsj hj2
        have hset : ∀ φ, (F.set j φ).set i (F i) = F.set j φ := fun φ => by
          funext k; unfold Facts.set
          by_cases h1 : k = i
          · subst h1; simp; intro h2; exact absurd h2.symm hji
          · simp [h1]
        have hset0 : F.set i (F i) = F := by funext k; unfold Facts.set; split <;> simp_all
        rcases hj3 with ⟨hwj, h0⟩ | ⟨hwj, h0⟩
        · simp only [hwj, if_true]
          unfold actM
          cases htj : T j with
          | none =>
            rw [htj] at h0
            obtain ⟨uj, h1, h2⟩ := h0
            rw [hset] at h2
            refine ⟨uj, h1, ih _ _ _ (set_up hF hDu) ?_ (hF0' _) inv' hfree' hri ?_⟩
            · obtain ⟨w, hw, hFw⟩ := hex
              exact ⟨w, hw, joint _ w hFw ⟨hw, fun e _ _ => hFw e.on⟩⟩
            · unfold opM
              simp only [hi, hwi, hwti]
              exact h2
          | some Rj =>
            rw [htj] at h0
            obtain ⟨h1, h2⟩ := h0
            refine ⟨h1, fun uj hex' => ?_⟩
            obtain ⟨w1, hw1, hFw1, hRw1⟩ := hex'
            refine ih _ _ _ (set_up hF fun x y hx hxy => ⟨hDu _ _ hx.1 hxy, hT j Rj htj uj _ _ hx.2 hxy⟩) ⟨w1, hw1, joint _ w1 hFw1 ⟨⟨hw1, fun e _ _ => hFw1 e.on⟩, hRw1⟩⟩ (hF0' _) inv' hfree' hri ?_
            unfold opM
            simp only [hi, hwi, hwti]
            have := h2 uj ⟨w1, hw1, by rw [hset0]; exact hFw1, hRw1⟩
            rw [hset] at this
            exact this
        · simp only [hwj]
          rw [hset0] at h0
          refine ih _ _ _ hF hex hF0u inv' hfree' hri ?_
          unfold opM
          simp only [hi, hwi, hwti]
          exact h0

end
end Go.Proofs.YtlonpgbapiemcaaGreat

namespace Go.Proofs.YtlonpgbapiemcaaGreat
open Go Go.RowKit
set_option linter.unusedVariables false
set_option linter.unusedSimpArgs false

section
variable {P : Program} {ops : Array Oper} {md : Region.Mode} {E : World → World → Prop} {C : World → Prop} {T : Nat → Option (Value → World → Prop)}

def noFacts : Facts := fun _ _ => True

theorem opM_of_wpM {o : Oper} {l : List Oper} {k : Nat} {a : Act} {F : Facts} {Q : Act → Facts → Prop} (h0 : ops[k]? = some o) (h : wpM P md ops E C T Q (o :: l) k a F) :
    opM P md ops E C T k (fun a' F' => wpM P md ops E C T Q l (k + 1) a' F') a F := by
  unfold opM
  simp only [h0]
  exact h

/-- Behind opM, whatever follows. -/
theorem opM_mono {i : Nat} {a : Act} {F : Facts} {K K' : Act → Facts → Prop} (hC : Up E C) (hT : ∀ i R, T i = some R → ∀ v, Up E (R v)) (hF : ∀ k, Up E (F k)) (hex : ∃ w, C w ∧ ∀ k, F k w)
    (h : opM P md ops E C T i K a F)
    (hK : ∀ a' F', (∀ k, Up E (F' k)) → (∃ w, C w ∧ ∀ k, F' k w) → (∀ k, k ≠ i → F' k = F k) → K a' F' → K' a' F') : opM P md ops E C T i K' a F := by
  unfold opM at *
  split
  · rename_i ho
    simp only [ho] at h
    exact hK _ _ hF hex (fun _ _ => rfl) h
  · rename_i o ho
    simp only [ho] at h
    have hD := depC_up (md := md) (o := o) hC hF
    split
    · rename_i hw
      simp only [hw, if_true] at h
      unfold actM at *
      cases ht : T i with
      | none =>
        rw [ht] at h
        obtain ⟨u, h1, h2⟩ := h
        refine ⟨u, h1, hK _ _ (set_up hF hD) ?_ (fun k hk => Facts.set_ne F _ hk) h2⟩
        obtain ⟨w, hw, hFw⟩ := hex
        exact ⟨w, hw, fun k => by unfold Facts.set; split; exact ⟨hw, fun e _ _ => hFw e.on⟩; exact hFw k⟩
      | some R =>
        rw [ht] at h
        refine ⟨h.1, fun v hv => hK _ _ (set_up hF fun x y hx hxy => ⟨hD _ _ hx.1 hxy, hT i R ht v _ _ hx.2 hxy⟩) ?_ (fun k hk => Facts.set_ne F _ hk) (h.2 v hv)⟩
        obtain ⟨w, hw, hFw, hR⟩ := hv
        exact ⟨w, hw, fun k => by unfold Facts.set; split; exact ⟨⟨hw, fun e _ _ => hFw e.on⟩, hR⟩; exact hFw k⟩
    · rename_i hw
      simp only [hw] at h
      exact hK _ _ hF hex (fun _ _ => rfl) h

/-- lexHead with another test at its end. -/
def lexHeadF (md : Region.Mode) (ops : Array Oper) (fin : Array Bool → Bool) : Nat → Nat → Array Bool → Bool
  | 0, _, listed => fin listed
  | f + 1, k, listed => (Region.ready md ops listed).contains k && Region.free md ops listed k && lexHeadF md ops fin f (k + 1) (listed.setIfInBounds k true)
theorem lexHeadF_of {g : Nat} : ∀ (f k n : Nat) (listed : Array Bool), k + f = n → Region.lexHead md ops g f k listed = true → lexHeadF md ops (fun l => Region.seqB md ops g n l) f k listed = true
  | 0, k, n, listed, hk, h => by obtain rfl : k = n := by omega
                                 exact h
  | f + 1, k, n, listed, hk, h => by
    simp only [Region.lexHead, Bool.and_eq_true] at h
    simp only [lexHeadF, Bool.and_eq_true]
    exact ⟨h.1, lexHeadF_of f (k + 1) n _ (by omega) h.2⟩

theorem wpAnyM_lexI {n : Nat} {I : Array Bool → Prop} (hI : ∀ listed i, I listed → i ∈ Region.ready md ops listed → i < n → I (listed.setIfInBounds i true)) {fin : Array Bool → Bool} (hfin : ∀ listed, fin listed = true → ∀ j ∈ Region.ready md ops listed, n ≤ j)
    {Lq : Act → Facts → Prop} (hC : Up E C) (hT : ∀ i R, T i = some R → ∀ v, Up E (R v)) (hsel : Region.noSelect ops = true)
    (hbd : ∀ listed, I listed → ∀ i, i < n → listed.getD i true = false → ∀ t, n ≤ t → t ∉ Region.ready md ops listed) :
    ∀ (l : List Oper) (k : Nat) (listed : Array Bool) (a : Act) (F : Facts), (∀ j, j < l.length → l[j]? = ops[k + j]?) → k + l.length = n → (∀ k, Up E (F k)) → (∃ w, C w ∧ ∀ k, F k w) →
    (∀ k, listed.getD k true = false → ∀ w, F k w) → I listed → lexHeadF md ops fin l.length k listed = true → wpM P md ops E C T Lq l k a F →
    wpAnyM P md ops E C T n (fun listed' a' F' => fin listed' = true ∧ Lq a' F') l.length listed a F
  | [], k, listed, a, F, _, hk, _, _, _, _, hB, h => ⟨hB, h⟩
  | o :: l, k, listed, a, F, hl, hk, hF, hex, hF0, inv, hB, h => by
    have h0 : ops[k]? = some o := by simpa using (hl 0 (by simp)).symm
    simp only [List.length_cons, lexHeadF, Bool.and_eq_true] at hB
    obtain ⟨⟨hr, hf⟩, hB'⟩ := hB
    have hkn : k < n := by simp only [List.length_cons] at hk; omega
    have hr' : k ∈ Region.ready md ops listed := by simpa using hr
    have hklt : k < listed.size := by
      rcases Nat.lt_or_ge k listed.size with h | h
      · exact h
      · have := (mem_ready.1 hr').1; simp [Array.getElem?_eq_none h] at this
    refine wpAnyM_first hI hC hT h0 (Region.noSelect_spec hsel) hbd hkn (fun listed' a' F' hL => hfin _ hL.1) l.length listed a F hF hex hF0 inv (Region.free_spec h0 hf) hr' ?_
    refine opM_mono hC hT hF hex (opM_of_wpM h0 h) fun a' F' hF' hex' hne hw => ?_
    refine wpAnyM_lexI hI hfin hC hT hsel hbd l (k + 1) _ a' F' (fun j hj => by have := hl (j + 1) (by simp; omega); simpa [Nat.add_assoc, Nat.add_comm 1 j] using this) (by simp only [List.length_cons] at hk; omega) hF' hex' ?_ (hI _ _ inv hr' hkn) hB' hw
    intro i hi w
    have hki : k ≠ i := by
      rintro rfl
      simp [hklt] at hi
    rw [getD_set_ne true hki] at hi
    rw [hne i (Ne.symm hki)]
    exact hF0 i hi w
theorem wpAnyM_lex {n g : Nat} {Lq : Act → Facts → Prop} (hC : Up E C) (hT : ∀ i R, T i = some R → ∀ v, Up E (R v)) (hsel : Region.noSelect ops = true)
    (hbd : ∀ listed, HeadInv md ops n listed → ∀ i, i < n → listed.getD i true = false → ∀ t, n ≤ t → t ∉ Region.ready md ops listed)
    (l : List Oper) (k : Nat) (listed : Array Bool) (a : Act) (F : Facts) (hl : ∀ j, j < l.length → l[j]? = ops[k + j]?) (hk : k + l.length = n) (hF : ∀ k, Up E (F k)) (hex : ∃ w, C w ∧ ∀ k, F k w)
    (hF0 : ∀ k, listed.getD k true = false → ∀ w, F k w) (inv : HeadInv md ops n listed) (hB : Region.lexHead md ops g l.length k listed = true) (h : wpM P md ops E C T Lq l k a F) :
    wpAnyM P md ops E C T n (fun listed' a' F' => Region.seqB md ops g n listed' = true ∧ Lq a' F') l.length listed a F :=
  wpAnyM_lexI (fun _ _ inv hi hin => HeadInv.set inv hi hin) (fun _ h => seqB_ready h) hC hT hsel hbd l k listed a F hl hk hF hex hF0 inv (lexHeadF_of _ _ _ _ hk hB) h

/-- All operations but a tail in a forced order. -/
theorem wp_region_opens_tail {id : Nat} {Q : Exit → Act → World → Prop} {a : Act} {w : World} {l : List Oper} (E : World → World → Prop) (C : World → Prop) (T : Nat → Option (Value → World → Prop)) (n : Nat) (hm : P.follows .mixedOrders = true) (hB : Region.lexTailB .any l.toArray n = true)
    (hC : Up E C) (hT : ∀ i R, T i = some R → ∀ v, Up E (R v)) (hw : C w.drew)
    (h : wpM P .any l.toArray E C T (fun a' F' => ∀ w', C w' → (∀ k, F' k w') → wpList P l.toArray Q (l.drop n) a' w') (l.take n) 0 a noFacts) : (Code.region id l.toArray true).wp P Q a w := by
  simp only [Region.lexTailB, Bool.and_eq_true, decide_eq_true_eq] at hB
  obtain ⟨⟨⟨⟨hsel, hn⟩, hs⟩, hc⟩, hlex⟩ := hB
  have hn' : n < l.length := by simpa using hn
  have htl : (l.take n).length = n := by simp; omega
  have hdl : (l.drop n).length = l.toArray.size - n := by simp
  have inv0 : HeadInv .any l.toArray n (Array.replicate l.toArray.size false) :=
    ⟨by simp, fun j oj _ hl => (by rw [getD_replicate_false] at hl; cases hl), fun t _ ht => getD_in (by simpa using ht) (getD_replicate_false _ _)⟩
  have H := wpAnyM_lex (md := .any) (g := l.toArray.size - n) hC hT hsel (fun listed inv i hi hun t ht => tail_waits hs hc hn inv _ i rfl hi hun t ht) (l.take n) 0 _ a noFacts (fun j hj => by
    have hj' : j < n := by rw [htl] at hj; exact hj
    simp [hj']) (by simpa using htl) (fun _ _ _ _ _ => trivial) ⟨_, hw, fun _ => trivial⟩ (fun _ _ _ => trivial) inv0 (by rw [htl]; exact hlex) h
  refine wp_region_any hm ?_
  have := wpAny_of_M (Q' := Q) (g := l.toArray.size - n) hC hT (fun listed a' F' w' hL hw' hF' => by
    have := wpAny_of_seq (md := .any) (Q' := Q) (l.drop n) n listed a' w' (fun j => by simp [List.getElem?_drop]) (by rw [hdl]; exact hL.1) (hL.2 w' hw' hF')
    rwa [hdl] at this) _ _ _ _ _ (fun _ _ _ _ _ => trivial) hw (fun _ => trivial) H
  rw [htl, show n + (l.toArray.size - n) = l.toArray.size by omega] at this
  exact this

def lexAllB (md : Region.Mode) (ops : Array Oper) : Bool := Region.noSelect ops && Region.lexHead md ops 0 ops.size 0 (Array.replicate ops.size false)

/-- The whole region. -/
theorem wp_region_opens {id : Nat} {Q : Exit → Act → World → Prop} {a : Act} {w : World} {l : List Oper} (E : World → World → Prop) (C : World → Prop) (T : Nat → Option (Value → World → Prop)) (hm : P.follows .mixedOrders = true) (hB : lexAllB .any l.toArray = true)
    (hC : Up E C) (hT : ∀ i R, T i = some R → ∀ v, Up E (R v)) (hw : C w.drew)
    (h : wpM P .any l.toArray E C T (fun a' F' => ∀ w', C w' → (∀ k, F' k w') → Q .normal a' w') l 0 a noFacts) : (Code.region id l.toArray true).wp P Q a w := by
  simp only [lexAllB, Bool.and_eq_true] at hB
  obtain ⟨hsel, hlex⟩ := hB
  have hs : l.toArray.size = l.length := by simp
  have inv0 : HeadInv .any l.toArray l.length (Array.replicate l.toArray.size false) :=
    ⟨by simp, fun j oj _ hl => (by rw [getD_replicate_false] at hl; cases hl), fun t ht ht' => by rw [hs] at ht'; omega⟩
  have H := wpAnyM_lex (md := .any) (g := 0) hC hT hsel (fun listed inv i hi hun t ht hr => by
    obtain ⟨_, o, ho, _⟩ := mem_ready.1 hr
    have := (Array.getElem?_eq_some_iff.1 ho).1
    rw [hs] at this; omega) l 0 _ a noFacts (fun j hj => by simp) (by simp) (fun _ _ _ _ _ => trivial) ⟨_, hw, fun _ => trivial⟩ (fun _ _ _ => trivial) inv0 (by rw [← hs]; exact hlex) h
  refine wp_region_any hm ?_
  have := wpAny_of_M (Q' := Q) (g := 0) hC hT (fun listed a' F' w' hL hw' hF' => ⟨by simpa [Region.seqB] using hL.1, hL.2 w' hw' hF'⟩) _ _ _ _ _ (fun _ _ _ _ _ => trivial) hw (fun _ => trivial) H
  rw [Nat.add_zero] at this
  rw [hs]
  exact this

/-! ### Steps -/
theorem wpM_nil {Q : Act → Facts → Prop} {k : Nat} {a : Act} {F : Facts} (h : Q a F) : wpM P md ops E C T Q [] k a F := h
/-- A value that hangs on nothing but what is known. -/
theorem wpM_val {Q : Act → Facts → Prop} {k : Nat} {a : Act} {F : Facts} {o : Oper} {rest : List Oper} (u : Value) (ht : T k = none) (hw : Region.wanted o (yielded ops a.tmps) = true) (hE : ∀ w, E w w)
    (hr : ∀ w, depC md C o F w → (execOp a.eval o).run P w = .ok (.value u) w) (h : wpM P md ops E C T Q rest (k + 1) (a.put o.dst u) (F.set k (depC md C o F))) : wpM P md ops E C T Q (o :: rest) k a F := by
  show if _ then _ else _
  rw [if_pos hw, ht]
  exact ⟨u, fun w hD => by rw [hr w hD]; exact ⟨hE w, rfl⟩, h⟩
theorem wpM_skip {Q : Act → Facts → Prop} {k : Nat} {a : Act} {F : Facts} {o : Oper} {rest : List Oper} (hw : Region.wanted o (yielded ops a.tmps) = false)
    (h : wpM P md ops E C T Q rest (k + 1) (a.put o.dst undef) F) : wpM P md ops E C T Q (o :: rest) k a F := by
  show if _ then _ else _
  rw [if_neg (by rw [hw]; exact Bool.false_ne_true)]
  exact h
/-- A value that is told by the word T has for it. -/
theorem wpM_op {Q : Act → Facts → Prop} {k : Nat} {a : Act} {F : Facts} {o : Oper} {rest : List Oper} (R : Value → World → Prop) (ht : T k = some R) (hw : Region.wanted o (yielded ops a.tmps) = true)
    (ho : opens P E o a (depC md C o F) R)
    (h : ∀ v, (∃ w, C w ∧ (∀ k, F k w) ∧ R v w) → wpM P md ops E C T Q rest (k + 1) (a.put o.dst v) (F.set k (fun w => depC md C o F w ∧ R v w))) : wpM P md ops E C T Q (o :: rest) k a F := by
  show if _ then _ else _
  rw [if_pos hw, ht]
  exact ⟨ho, h⟩
/-- A call of a function. -/
theorem opens_call {o : Oper} {a : Act} {D : World → Prop} {R : Value → World → Prop} (f : FuncId) (args : Array Value) (hr : ∀ w, D w → (execOp a.eval o).run P w = .ok (.enter f args) w)
    (hc : ∀ w, D w → Calls P f args w fun e w' => ∃ v, e = .returned v ∧ E w w' ∧ R v w') : opens P E o a D R := by
  intro w hw
  rw [hr w hw]
  exact hc w hw
/-- Another operation that makes memory. -/
theorem opens_val {o : Oper} {a : Act} {D : World → Prop} {R : Value → World → Prop} (hr : ∀ w, D w → ∃ v w', (execOp a.eval o).run P w = .ok (.value v) w' ∧ E w w' ∧ R v w') : opens P E o a D R := by
  intro w hw
  obtain ⟨v, w', h1, h2, h3⟩ := hr w hw
  rw [h1]
  exact ⟨h2, h3⟩
end
end Go.Proofs.YtlonpgbapiemcaaGreat

namespace Go.Proofs.YtlonpgbapiemcaaGreat
open Go Go.RowKit
set_option linter.unusedVariables false
set_option linter.unusedSimpArgs false

section
variable {l₀ n : Nat} {P : Program} {ops : Array Oper} {md : Region.Mode} {E : World → World → Prop} {C : World → Prop} {T : Nat → Option (Value → World → Prop)}

theorem in_of_calls {l₀ n : Nat} {P : Program} {f : FuncId} {args : Array Value} {w : World} {R : Ending → World → Prop} (h : Calls P f args w R) : CallsIn (Fence.wide.inRound l₀) n P f args w R :=
  CallsIn.inRound l₀ (callsIn_wide.2 h)

theorem wpIn_of_opens {o : Oper} {a : Act} {D : World → Prop} {R : Value → World → Prop} {K' : Act → World → Prop} {Q' : Exit → Act → World → Prop} {w : World} (hnd : ∀ c, o.op ≠ .defer c) (h : opens P E o a D R) (hw : D w)
    (hK : ∀ v w', E w w' → R v w' → K' (a.put o.dst v) w') : o.wpIn (Fence.wide.inRound l₀) n P a w K' Q' := by
  refine ⟨fun _ _ => trivial, ?_⟩
  have := h w hw
  rw [show (Fence.wide.inRound l₀).round = some l₀ from rfl, Oper.semAt_some l₀ a.eval o hnd]
  generalize (execOp a.eval o).run P w = r at *
  cases r with
  | ok m w' =>
    cases m <;> simp only [opensUpon] at this <;> simp only [Oper.uponIn]
    case value u => exact hK _ _ this.1 this.2
    case skip => exact hK _ _ this.1 this.2
    case enter f args => exact ⟨fun h => (by cases h), in_of_calls (this.mono fun e w'' ⟨v, he, h1, h2⟩ => by subst he; exact hK _ _ h1 h2)⟩
  | halt x w' => simp only [opensUpon] at this

theorem wpAnyIn_of_M {m g : Nat} {L : Array Bool → Act → Facts → Prop} {Q' : Exit → Act → World → Prop} (hnd : ∀ (i : Nat) (o : Oper), ops[i]? = some o → ∀ c, o.op ≠ .defer c) (hC : Up E C) (hT : ∀ i R, T i = some R → ∀ v, Up E (R v))
    (hL : ∀ listed a F w, L listed a F → C w → (∀ k, F k w) → wpAnyIn (Fence.wide.inRound l₀) n P md ops Q' g listed a w) :
    ∀ (f : Nat) (listed : Array Bool) (a : Act) (F : Facts) (w : World), (∀ k, Up E (F k)) → C w → (∀ k, F k w) → wpAnyM P md ops E C T m L f listed a F → wpAnyIn (Fence.wide.inRound l₀) n P md ops Q' (f + g) listed a w
  | 0, listed, a, F, w, _, hw, hFw, h => by rw [Nat.zero_add]; exact hL _ _ _ _ h hw hFw
  | f + 1, listed, a, F, w, hF, hw, hFw, h => by
    rw [show f + 1 + g = (f + g) + 1 by omega]
    refine ⟨fun h0 => absurd h0 h.1, fun i hi => ?_⟩
    obtain ⟨_, hop⟩ := h.2 i hi
    unfold opM at hop
    unfold wpOpIn
    split
    · rename_i ho
      simp only [ho] at hop
      exact wpAnyIn_of_M hnd hC hT hL f _ _ _ _ hF hw hFw hop
    · rename_i o ho
      simp only [ho] at hop
      split
      · rename_i hwt
        simp only [hwt, if_true] at hop
        have hD : depC md C o F w := ⟨hw, fun e _ _ => hFw e.on⟩
        have hDu := depC_up (md := md) (o := o) hC hF
        generalize ht : T i = t at hop
        cases t with
        | none =>
          obtain ⟨u, h1, h2⟩ := hop
          refine wpIn_of_opens (hnd i o ho) h1.opens hD fun v w' he hv => ?_
          subst hv
          refine wpAnyIn_of_M hnd hC hT hL f _ _ _ _ (set_up hF hDu) (hC _ _ hw he) (fun k => ?_) h2
          unfold Facts.set
          split
          · exact hDu _ _ hD he
          · exact hF k _ _ (hFw k) he
        | some R =>
          obtain ⟨h1, h2⟩ := hop
          refine wpIn_of_opens (hnd i o ho) h1 hD fun v w' he hv => ?_
          have hFw' : ∀ k, F k w' := fun k => hF k _ _ (hFw k) he
          refine wpAnyIn_of_M hnd hC hT hL f _ _ _ _ (set_up hF fun x y hx hxy => ⟨hDu _ _ hx.1 hxy, hT i R ht v _ _ hx.2 hxy⟩) (hC _ _ hw he) (fun k => ?_) (h2 v ⟨w', hC _ _ hw he, hFw', hv⟩)
          unfold Facts.set
          split
          · exact ⟨hDu _ _ hD he, hv⟩
          · exact hFw' k
      · rename_i hwt
        simp only [hwt] at hop
        exact ⟨fun _ _ => trivial, wpAnyIn_of_M hnd hC hT hL f _ _ _ _ hF hw hFw hop⟩

theorem wpAnyIn_of_seq {F : Fence} {Q' : Exit → Act → World → Prop} : ∀ (l : List Oper) (k : Nat) (listed : Array Bool) (a : Act) (w : World), (∀ j, l[j]? = ops[k + j]?) →
    Region.seqB md ops l.length k listed = true → wpListIn F n P ops Q' l a w → wpAnyIn F n P md ops Q' l.length listed a w
  | [], _, _, _, _, _, hB, h => ⟨by simpa [Region.seqB] using hB, h⟩
  | o :: l, k, listed, a, w, hl, hB, h => by
    have h0 : ops[k]? = some o := by simpa using (hl 0).symm
    simp only [List.length_cons, Region.seqB, Bool.and_eq_true, decide_eq_true_eq] at hB
    refine ⟨fun h1 => (by rw [hB.1] at h1; cases h1), fun i hi => ?_⟩
    rw [hB.1] at hi
    have hik : i = k := by simpa using hi
    subst hik
    have hw : wpOpIn F n P ops Q' i (wpListIn F n P ops Q' l) a w := by unfold wpOpIn; simp only [h0]; exact h
    exact wpOpIn_mono (fun a' w' h' => wpAnyIn_of_seq l (i + 1) _ a' w' (fun j => by have := hl (j + 1); simpa [Nat.add_assoc, Nat.add_comm 1 j] using this) hB.2 h') hw

def noDefer (ops : Array Oper) : Bool := ops.all fun o => match o.op with | .defer _ => false | _ => true
theorem noDefer_spec (h : noDefer ops = true) : ∀ (i : Nat) (o : Oper), ops[i]? = some o → ∀ c, o.op ≠ .defer c := by
  intro i o ho c heq
  have := Array.all_eq_true_iff_forall_mem.1 h o (Array.mem_of_getElem? ho)
  simp [heq] at this

theorem wpIn_region_opens_tail {id : Nat} {Q : Exit → Act → World → Prop} {a : Act} {w : World} {l : List Oper} (E : World → World → Prop) (C : World → Prop) (T : Nat → Option (Value → World → Prop)) (m : Nat) (hm : P.follows .mixedOrders = true) (hB : (noDefer l.toArray && Region.lexTailB .any l.toArray m) = true)
    (hC : Up E C) (hT : ∀ i R, T i = some R → ∀ v, Up E (R v)) (hw : C w.drew)
    (h : wpM P .any l.toArray E C T (fun a' F' => ∀ w', C w' → (∀ k, F' k w') → wpListIn (Fence.wide.inRound l₀) n P l.toArray Q (l.drop m) a' w') (l.take m) 0 a noFacts) : (Code.region id l.toArray true).wpIn (Fence.wide.inRound l₀) n P Q a w := by
  simp only [Region.lexTailB, Bool.and_eq_true, decide_eq_true_eq] at hB
  obtain ⟨hnd, ⟨⟨⟨hsel, hn⟩, hs⟩, hc⟩, hlex⟩ := hB
  have hn' : m < l.length := by simpa using hn
  have htl : (l.take m).length = m := by simp; omega
  have hdl : (l.drop m).length = l.toArray.size - m := by simp
  have inv0 : HeadInv .any l.toArray m (Array.replicate l.toArray.size false) :=
    ⟨by simp, fun j oj _ hl => (by rw [getD_replicate_false] at hl; cases hl), fun t _ ht => getD_in (by simpa using ht) (getD_replicate_false _ _)⟩
  have H := wpAnyM_lex (md := .any) (g := l.toArray.size - m) hC hT hsel (fun listed inv i hi hun t ht => tail_waits hs hc hn inv _ i rfl hi hun t ht) (l.take m) 0 _ a noFacts (fun j hj => by
    have hj' : j < m := by rw [htl] at hj; exact hj
    simp [hj']) (by simpa using htl) (fun _ _ _ _ _ => trivial) ⟨_, hw, fun _ => trivial⟩ (fun _ _ _ => trivial) inv0 (by rw [htl]; exact hlex) h
  refine wpIn_region_any hm ?_
  have := wpAnyIn_of_M (l₀ := l₀) (n := n) (Q' := Q) (g := l.toArray.size - m) (noDefer_spec hnd) hC hT (fun listed a' F' w' hL hw' hF' => by
    have := wpAnyIn_of_seq (n := n) (P := P) (F := Fence.wide.inRound l₀) (md := .any) (Q' := Q) (l.drop m) m listed a' w' (fun j => by simp [List.getElem?_drop]) (by rw [hdl]; exact hL.1) (hL.2 w' hw' hF')
    rwa [hdl] at this) _ _ _ _ _ (fun _ _ _ _ _ => trivial) hw (fun _ => trivial) H
  rw [htl, show m + (l.toArray.size - m) = l.toArray.size by omega] at this
  exact this

theorem wpIn_region_opens {id : Nat} {Q : Exit → Act → World → Prop} {a : Act} {w : World} {l : List Oper} (E : World → World → Prop) (C : World → Prop) (T : Nat → Option (Value → World → Prop)) (hm : P.follows .mixedOrders = true) (hB : (noDefer l.toArray && lexAllB .any l.toArray) = true)
    (hC : Up E C) (hT : ∀ i R, T i = some R → ∀ v, Up E (R v)) (hw : C w.drew)
    (h : wpM P .any l.toArray E C T (fun a' F' => ∀ w', C w' → (∀ k, F' k w') → Q .normal a' w') l 0 a noFacts) : (Code.region id l.toArray true).wpIn (Fence.wide.inRound l₀) n P Q a w := by
  simp only [lexAllB, Bool.and_eq_true] at hB
  obtain ⟨hnd, hsel, hlex⟩ := hB
  have hs : l.toArray.size = l.length := by simp
  have inv0 : HeadInv .any l.toArray l.length (Array.replicate l.toArray.size false) :=
    ⟨by simp, fun j oj _ hl => (by rw [getD_replicate_false] at hl; cases hl), fun t ht ht' => by rw [hs] at ht'; omega⟩
  have H := wpAnyM_lex (md := .any) (g := 0) hC hT hsel (fun listed inv i hi hun t ht hr => by
    obtain ⟨_, o, ho, _⟩ := mem_ready.1 hr
    have := (Array.getElem?_eq_some_iff.1 ho).1
    rw [hs] at this; omega) l 0 _ a noFacts (fun j hj => by simp) (by simp) (fun _ _ _ _ _ => trivial) ⟨_, hw, fun _ => trivial⟩ (fun _ _ _ => trivial) inv0 (by rw [← hs]; exact hlex) h
  refine wpIn_region_any hm ?_
  have := wpAnyIn_of_M (l₀ := l₀) (n := n) (Q' := Q) (g := 0) (noDefer_spec hnd) hC hT (fun listed a' F' w' hL hw' hF' => ⟨by simpa [Region.seqB] using hL.1, hL.2 w' hw' hF'⟩) _ _ _ _ _ (fun _ _ _ _ _ => trivial) hw (fun _ => trivial) H
  rw [Nat.add_zero] at this
  rw [hs]
  exact this
end
end Go.Proofs.YtlonpgbapiemcaaGreat

namespace Go.Proofs.YtlonpgbapiemcaaGreat
open Go
set_option linter.unusedVariables false
set_option linter.unusedSimpArgs false

section
variable {P : Program} {ops : Array Oper} {md : Region.Mode} {E : World → World → Prop} {C : World → Prop} {T : Nat → Option (Value → World → Prop)}
theorem wpM_val0 {Q : Act → Facts → Prop} {k : Nat} {a : Act} {F : Facts} {o : Oper} {rest : List Oper} (u : Value) (ht : T k = none) (hw : Region.wanted o (yielded ops a.tmps) = true) (hE : ∀ w, E w w)
    (hr : ∀ w, depC md C o F w → (execOp a.eval o).run P w = .ok (.value u) w) (h : ∀ φ : World → Prop, wpM P md ops E C T Q rest (k + 1) (a.put o.dst u) (F.set k φ)) : wpM P md ops E C T Q (o :: rest) k a F :=
  wpM_val u ht hw hE hr (h _)

/-- The walk of a region, closed up. -/
structure WM (P : Program) (md : Region.Mode) (ops : Array Oper) (E : World → World → Prop) (C : World → Prop) (T : Nat → Option (Value → World → Prop)) (Q : Act → Facts → Prop) (l : List Oper) (k : Nat) (a : Act) (F : Facts) : Prop where
  out : wpM P md ops E C T Q l k a F
theorem wM_nil {Q : Act → Facts → Prop} {k : Nat} {a : Act} {F : Facts} (h : Q a F) : WM P md ops E C T Q [] k a F := ⟨h⟩
theorem wM_val {Q : Act → Facts → Prop} {k : Nat} {a : Act} {F : Facts} {o : Oper} {rest : List Oper} (u : Value) (ht : T k = none) (hw : Region.wanted o (yielded ops a.tmps) = true) (hE : ∀ w, E w w)
    (hr : ∀ w, depC md C o F w → (execOp a.eval o).run P w = .ok (.value u) w) (h : ∀ φ : World → Prop, WM P md ops E C T Q rest (k + 1) (a.put o.dst u) (F.set k φ)) : WM P md ops E C T Q (o :: rest) k a F :=
  ⟨wpM_val u ht hw hE hr (h _).out⟩
theorem wM_skip {Q : Act → Facts → Prop} {k : Nat} {a : Act} {F : Facts} {o : Oper} {rest : List Oper} (hw : Region.wanted o (yielded ops a.tmps) = false)
    (h : WM P md ops E C T Q rest (k + 1) (a.put o.dst undef) F) : WM P md ops E C T Q (o :: rest) k a F := ⟨wpM_skip hw h.out⟩
theorem wM_op {Q : Act → Facts → Prop} {k : Nat} {a : Act} {F : Facts} {o : Oper} {rest : List Oper} (R : Value → World → Prop) (ht : T k = some R) (hw : Region.wanted o (yielded ops a.tmps) = true)
    (ho : opens P E o a (depC md C o F) R)
    (h : ∀ v, (∃ w, C w ∧ (∀ k, F k w) ∧ R v w) → WM P md ops E C T Q rest (k + 1) (a.put o.dst v) (F.set k (fun w => depC md C o F w ∧ R v w))) : WM P md ops E C T Q (o :: rest) k a F :=
  ⟨wpM_op R ht hw ho fun v hv => (h v hv).out⟩
theorem wp_region_shut {id : Nat} {Q : Exit → Act → World → Prop} {a : Act} {w : World} {l : List Oper} (E : World → World → Prop) (C : World → Prop) (T : Nat → Option (Value → World → Prop)) (hm : P.follows .mixedOrders = true) (hB : lexAllB .any l.toArray = true)
    (hC : Up E C) (hT : ∀ i R, T i = some R → ∀ v, Up E (R v)) (hw : C w.drew)
    (h : WM P .any l.toArray E C T (fun a' F' => ∀ w', C w' → (∀ k, F' k w') → Q .normal a' w') l 0 a noFacts) : (Code.region id l.toArray true).wp P Q a w := wp_region_opens E C T hm hB hC hT hw h.out
theorem wp_region_shut_tail {id : Nat} {Q : Exit → Act → World → Prop} {a : Act} {w : World} {l : List Oper} (E : World → World → Prop) (C : World → Prop) (T : Nat → Option (Value → World → Prop)) (n : Nat) (hm : P.follows .mixedOrders = true) (hB : Region.lexTailB .any l.toArray n = true)
    (hC : Up E C) (hT : ∀ i R, T i = some R → ∀ v, Up E (R v)) (hw : C w.drew)
    (h : WM P .any l.toArray E C T (fun a' F' => ∀ w', C w' → (∀ k, F' k w') → wpList P l.toArray Q (l.drop n) a' w') (l.take n) 0 a noFacts) : (Code.region id l.toArray true).wp P Q a w := wp_region_opens_tail E C T n hm hB hC hT hw h.out
theorem wpIn_region_shut {l₀ n : Nat} {id : Nat} {Q : Exit → Act → World → Prop} {a : Act} {w : World} {l : List Oper} (E : World → World → Prop) (C : World → Prop) (T : Nat → Option (Value → World → Prop)) (hm : P.follows .mixedOrders = true) (hB : (noDefer l.toArray && lexAllB .any l.toArray) = true)
    (hC : Up E C) (hT : ∀ i R, T i = some R → ∀ v, Up E (R v)) (hw : C w.drew)
    (h : WM P .any l.toArray E C T (fun a' F' => ∀ w', C w' → (∀ k, F' k w') → Q .normal a' w') l 0 a noFacts) : (Code.region id l.toArray true).wpIn (Fence.wide.inRound l₀) n P Q a w := wpIn_region_opens E C T hm hB hC hT hw h.out
theorem wpIn_region_shut_tail {l₀ n : Nat} {id : Nat} {Q : Exit → Act → World → Prop} {a : Act} {w : World} {l : List Oper} (E : World → World → Prop) (C : World → Prop) (T : Nat → Option (Value → World → Prop)) (m : Nat) (hm : P.follows .mixedOrders = true) (hB : (noDefer l.toArray && Region.lexTailB .any l.toArray m) = true)
    (hC : Up E C) (hT : ∀ i R, T i = some R → ∀ v, Up E (R v)) (hw : C w.drew)
    (h : WM P .any l.toArray E C T (fun a' F' => ∀ w', C w' → (∀ k, F' k w') → wpListIn (Fence.wide.inRound l₀) n P l.toArray Q (l.drop m) a' w') (l.take m) 0 a noFacts) : (Code.region id l.toArray true).wpIn (Fence.wide.inRound l₀) n P Q a w := wpIn_region_opens_tail E C T m hm hB hC hT hw h.out
end
end Go.Proofs.YtlonpgbapiemcaaGreat

namespace Go.Proofs.YtlonpgbapiemcaaGreat
open Go Go.RowKit
set_option linter.unusedVariables false
set_option linter.unusedSimpArgs false

section
variable {n : Nat} {P : Program} {ops : Array Oper} {md : Region.Mode} {E : World → World → Prop} {C : World → Prop} {T : Nat → Option (Value → World → Prop)}

theorem wpW_of_opens {o : Oper} {a : Act} {D : World → Prop} {R : Value → World → Prop} {K' : Act → World → Prop} {Q' : Exit → Act → World → Prop} {w : World} (hnd : ∀ c, o.op ≠ .defer c) (h : opens P E o a D R) (hw : D w)
    (hK : ∀ v w', E w w' → R v w' → K' (a.put o.dst v) w') : o.wpIn Fence.wide n P a w K' Q' := by
  refine ⟨fun _ _ => trivial, ?_⟩
  have := h w hw
  rw [show Fence.wide.round = none from rfl, Oper.semAt_none]
  generalize (execOp a.eval o).run P w = r at *
  cases r with
  | ok m w' =>
    cases m <;> simp only [opensUpon] at this <;> simp only [Oper.uponIn]
    case value u => exact hK _ _ this.1 this.2
    case skip => exact hK _ _ this.1 this.2
    case enter f args => exact ⟨fun h => (by cases h), callsIn_wide.2 (this.mono fun e w'' ⟨v, he, h1, h2⟩ => by subst he; exact hK _ _ h1 h2)⟩
  | halt x w' => simp only [opensUpon] at this

theorem wpAnyW_of_M {m g : Nat} {L : Array Bool → Act → Facts → Prop} {Q' : Exit → Act → World → Prop} (hnd : ∀ (i : Nat) (o : Oper), ops[i]? = some o → ∀ c, o.op ≠ .defer c) (hC : Up E C) (hT : ∀ i R, T i = some R → ∀ v, Up E (R v))
    (hL : ∀ listed a F w, L listed a F → C w → (∀ k, F k w) → wpAnyIn Fence.wide n P md ops Q' g listed a w) :
    ∀ (f : Nat) (listed : Array Bool) (a : Act) (F : Facts) (w : World), (∀ k, Up E (F k)) → C w → (∀ k, F k w) → wpAnyM P md ops E C T m L f listed a F → wpAnyIn Fence.wide n P md ops Q' (f + g) listed a w
  | 0, listed, a, F, w, _, hw, hFw, h => by rw [Nat.zero_add]; exact hL _ _ _ _ h hw hFw
  | f + 1, listed, a, F, w, hF, hw, hFw, h => by
    rw [show f + 1 + g = (f + g) + 1 by omega]
    refine ⟨fun h0 => absurd h0 h.1, fun i hi => ?_⟩
    obtain ⟨_, hop⟩ := h.2 i hi
    unfold opM at hop
    unfold wpOpIn
    split
    · rename_i ho
      simp only [ho] at hop
      exact wpAnyW_of_M hnd hC hT hL f _ _ _ _ hF hw hFw hop
    · rename_i o ho
      simp only [ho] at hop
      split
      · rename_i hwt
        simp only [hwt, if_true] at hop
        have hD : depC md C o F w := ⟨hw, fun e _ _ => hFw e.on⟩
        have hDu := depC_up (md := md) (o := o) hC hF
        generalize ht : T i = t at hop
        cases t with
        | none =>
          obtain ⟨u, h1, h2⟩ := hop
          refine wpW_of_opens (hnd i o ho) h1.opens hD fun v w' he hv => ?_
          subst hv
          refine wpAnyW_of_M hnd hC hT hL f _ _ _ _ (set_up hF hDu) (hC _ _ hw he) (fun k => ?_) h2
          unfold Facts.set
          split
          · exact hDu _ _ hD he
          · exact hF k _ _ (hFw k) he
        | some R =>
          obtain ⟨h1, h2⟩ := hop
          refine wpW_of_opens (hnd i o ho) h1 hD fun v w' he hv => ?_
          have hFw' : ∀ k, F k w' := fun k => hF k _ _ (hFw k) he
          refine wpAnyW_of_M hnd hC hT hL f _ _ _ _ (set_up hF fun x y hx hxy => ⟨hDu _ _ hx.1 hxy, hT i R ht v _ _ hx.2 hxy⟩) (hC _ _ hw he) (fun k => ?_) (h2 v ⟨w', hC _ _ hw he, hFw', hv⟩)
          unfold Facts.set
          split
          · exact ⟨hDu _ _ hD he, hv⟩
          · exact hFw' k
      · rename_i hwt
        simp only [hwt] at hop
        exact ⟨fun _ _ => trivial, wpAnyW_of_M hnd hC hT hL f _ _ _ _ hF hw hFw hop⟩

theorem wpW_region_opens_tail {id : Nat} {Q : Exit → Act → World → Prop} {a : Act} {w : World} {l : List Oper} (E : World → World → Prop) (C : World → Prop) (T : Nat → Option (Value → World → Prop)) (m : Nat) (hm : P.follows .mixedOrders = true) (hB : (noDefer l.toArray && Region.lexTailB .any l.toArray m) = true)
    (hC : Up E C) (hT : ∀ i R, T i = some R → ∀ v, Up E (R v)) (hw : C w.drew)
    (h : wpM P .any l.toArray E C T (fun a' F' => ∀ w', C w' → (∀ k, F' k w') → wpListIn Fence.wide n P l.toArray Q (l.drop m) a' w') (l.take m) 0 a noFacts) : (Code.region id l.toArray true).wpIn Fence.wide n P Q a w := by
  simp only [Region.lexTailB, Bool.and_eq_true, decide_eq_true_eq] at hB
  obtain ⟨hnd, ⟨⟨⟨hsel, hn⟩, hs⟩, hc⟩, hlex⟩ := hB
  have hn' : m < l.length := by simpa using hn
  have htl : (l.take m).length = m := by simp; omega
  have hdl : (l.drop m).length = l.toArray.size - m := by simp
  have inv0 : HeadInv .any l.toArray m (Array.replicate l.toArray.size false) :=
    ⟨by simp, fun j oj _ hl => (by rw [getD_replicate_false] at hl; cases hl), fun t _ ht => getD_in (by simpa using ht) (getD_replicate_false _ _)⟩
  have H := wpAnyM_lex (md := .any) (g := l.toArray.size - m) hC hT hsel (fun listed inv i hi hun t ht => tail_waits hs hc hn inv _ i rfl hi hun t ht) (l.take m) 0 _ a noFacts (fun j hj => by
    have hj' : j < m := by rw [htl] at hj; exact hj
    simp [hj']) (by simpa using htl) (fun _ _ _ _ _ => trivial) ⟨_, hw, fun _ => trivial⟩ (fun _ _ _ => trivial) inv0 (by rw [htl]; exact hlex) h
  refine wpIn_region_any hm ?_
  have := wpAnyW_of_M (n := n) (Q' := Q) (g := l.toArray.size - m) (noDefer_spec hnd) hC hT (fun listed a' F' w' hL hw' hF' => by
    have := wpAnyIn_of_seq (n := n) (P := P) (F := Fence.wide) (md := .any) (Q' := Q) (l.drop m) m listed a' w' (fun j => by simp [List.getElem?_drop]) (by rw [hdl]; exact hL.1) (hL.2 w' hw' hF')
    rwa [hdl] at this) _ _ _ _ _ (fun _ _ _ _ _ => trivial) hw (fun _ => trivial) H
  rw [htl, show m + (l.toArray.size - m) = l.toArray.size by omega] at this
  exact this

theorem wpW_region_opens {id : Nat} {Q : Exit → Act → World → Prop} {a : Act} {w : World} {l : List Oper} (E : World → World → Prop) (C : World → Prop) (T : Nat → Option (Value → World → Prop)) (hm : P.follows .mixedOrders = true) (hB : (noDefer l.toArray && lexAllB .any l.toArray) = true)
    (hC : Up E C) (hT : ∀ i R, T i = some R → ∀ v, Up E (R v)) (hw : C w.drew)
    (h : wpM P .any l.toArray E C T (fun a' F' => ∀ w', C w' → (∀ k, F' k w') → Q .normal a' w') l 0 a noFacts) : (Code.region id l.toArray true).wpIn Fence.wide n P Q a w := by
  simp only [lexAllB, Bool.and_eq_true] at hB
  obtain ⟨hnd, hsel, hlex⟩ := hB
  have hs : l.toArray.size = l.length := by simp
  have inv0 : HeadInv .any l.toArray l.length (Array.replicate l.toArray.size false) :=
    ⟨by simp, fun j oj _ hl => (by rw [getD_replicate_false] at hl; cases hl), fun t ht ht' => by rw [hs] at ht'; omega⟩
  have H := wpAnyM_lex (md := .any) (g := 0) hC hT hsel (fun listed inv i hi hun t ht hr => by
    obtain ⟨_, o, ho, _⟩ := mem_ready.1 hr
    have := (Array.getElem?_eq_some_iff.1 ho).1
    rw [hs] at this; omega) l 0 _ a noFacts (fun j hj => by simp) (by simp) (fun _ _ _ _ _ => trivial) ⟨_, hw, fun _ => trivial⟩ (fun _ _ _ => trivial) inv0 (by rw [← hs]; exact hlex) h
  refine wpIn_region_any hm ?_
  have := wpAnyW_of_M (n := n) (Q' := Q) (g := 0) (noDefer_spec hnd) hC hT (fun listed a' F' w' hL hw' hF' => ⟨by simpa [Region.seqB] using hL.1, hL.2 w' hw' hF'⟩) _ _ _ _ _ (fun _ _ _ _ _ => trivial) hw (fun _ => trivial) H
  rw [Nat.add_zero] at this
  rw [hs]
  exact this
theorem wpW_region_shut_tail {n : Nat} {id : Nat} {Q : Exit → Act → World → Prop} {a : Act} {w : World} {l : List Oper} (E : World → World → Prop) (C : World → Prop) (T : Nat → Option (Value → World → Prop)) (m : Nat) (hm : P.follows .mixedOrders = true) (hB : (noDefer l.toArray && Region.lexTailB .any l.toArray m) = true)
    (hC : Up E C) (hT : ∀ i R, T i = some R → ∀ v, Up E (R v)) (hw : C w.drew)
    (h : WM P .any l.toArray E C T (fun a' F' => ∀ w', C w' → (∀ k, F' k w') → wpListIn Fence.wide n P l.toArray Q (l.drop m) a' w') (l.take m) 0 a noFacts) : (Code.region id l.toArray true).wpIn Fence.wide n P Q a w := wpW_region_opens_tail E C T m hm hB hC hT hw h.out
theorem wpW_region_shut {n : Nat} {id : Nat} {Q : Exit → Act → World → Prop} {a : Act} {w : World} {l : List Oper} (E : World → World → Prop) (C : World → Prop) (T : Nat → Option (Value → World → Prop)) (hm : P.follows .mixedOrders = true) (hB : (noDefer l.toArray && lexAllB .any l.toArray) = true)
    (hC : Up E C) (hT : ∀ i R, T i = some R → ∀ v, Up E (R v)) (hw : C w.drew)
    (h : WM P .any l.toArray E C T (fun a' F' => ∀ w', C w' → (∀ k, F' k w') → Q .normal a' w') l 0 a noFacts) : (Code.region id l.toArray true).wpIn Fence.wide n P Q a w := wpW_region_opens E C T hm hB hC hT hw h.out
end
end Go.Proofs.YtlonpgbapiemcaaGreat

namespace Go.Proofs.YtlonpgbapiemcaaGreat
open Go
set_option linter.unusedVariables false
set_option linter.unusedSimpArgs false

section
variable {P : Program} {ops : Array Oper} {md : Region.Mode} {Q : Exit → Act → World → Prop}

theorem move_op {o : Oper} {x : Operand} {p : Nat} {K : Act → World → Prop} {a : Act} {w : World} (hp : ops[p]? = some o) (ho : o.op = .move x) (hg : o.guard = none) (h : wpOp P ops Q p K a w) : ∃ v, Yields P ops o v a ∧ K (a.put o.dst v) w := by
  unfold wpOp at h
  simp only [hp] at h
  have hw : Region.wanted o (yielded ops a.tmps) = true := by simp [Region.wanted, hg]
  rw [if_pos hw] at h
  have he : execOp a.eval o = (pure (Next.value (a.eval x))) := by unfold execOp; rw [ho]
  rcases h with h | ⟨⟨h, _⟩, _⟩
  · unfold Oper.wp at h
    rw [he] at h
    exact ⟨a.eval x, .inl ⟨hw, fun w => by rw [he]; simp⟩, by simpa [Oper.upon] using h⟩
  · exfalso
    rw [he] at h
    exact absurd (show noRoomEvent ∈ (#[] : Array Event) from h) (by simp)

def edged (o : Oper) (p : Nat) : Oper := { o with after := o.after.push ⟨p, .data⟩ }
def addEdge : List Oper → Nat → Nat → List Oper
  | [], _, _ => []
  | o :: l, 0, p => edged o p :: l
  | o :: l, n + 1, p => o :: addEdge l n p
theorem addEdge_get : ∀ (l : List Oper) (n p k : Nat), (addEdge l n p)[k]? = if k = n then (l[k]?).map (edged · p) else l[k]?
  | [], n, p, k => by simp [addEdge]
  | o :: l, 0, p, 0 => by simp [addEdge]
  | o :: l, 0, p, k + 1 => by simp [addEdge]
  | o :: l, n + 1, p, 0 => by simp [addEdge]
  | o :: l, n + 1, p, k + 1 => by simp [addEdge, addEdge_get l n p k]
theorem addEdge_len : ∀ (l : List Oper) (n p : Nat), (addEdge l n p).length = l.length
  | [], n, p => rfl
  | o :: l, 0, p => rfl
  | o :: l, n + 1, p => by simp [addEdge, addEdge_len l n p]

variable {l : List Oper} {n p : Nat}
theorem edge_yielded (tmps : Array Value) : yielded (addEdge l n p).toArray tmps = yielded l.toArray tmps := by
  funext j
  have h : ((addEdge l n p).toArray[j]?).bind (·.dst) = (l.toArray[j]?).bind (·.dst) := by
    simp only [List.getElem?_toArray, addEdge_get]
    by_cases hj : j = n
    · rw [if_pos hj]; cases l[j]? <;> rfl
    · rw [if_neg hj]
  unfold yielded
  rw [h]
theorem edge_op {i : Nat} {K : Act → World → Prop} {a : Act} {w : World} : wpOp P (addEdge l n p).toArray Q i K a w = wpOp P l.toArray Q i K a w := by
  unfold wpOp
  simp only [List.getElem?_toArray, addEdge_get, edge_yielded]
  by_cases hj : i = n
  · rw [if_pos hj]; cases l[i]? <;> rfl
  · rw [if_neg hj]
theorem edge_ready {listed : Array Bool} {j : Nat} : j ∈ Region.ready .any (addEdge l n p).toArray listed ↔ j ∈ Region.ready .any l.toArray listed ∧ (j = n → listed.getD p false = true) := by
  rw [mem_ready, mem_ready]
  simp only [List.getElem?_toArray, addEdge_get]
  by_cases hj : j = n
  · simp only [hj, if_true, true_implies]
    cases h : l[n]? with
    | none => simp
    | some o =>
      simp only [Option.map_some, Option.some.injEq, exists_eq_left', edged]
      constructor
      · rintro ⟨h1, h2⟩
        exact ⟨⟨h1, fun e he hb => h2 e (by simp [he]) hb⟩, h2 ⟨p, .data⟩ (by simp) rfl⟩
      · rintro ⟨⟨h1, h2⟩, h3⟩
        refine ⟨h1, fun e he hb => ?_⟩
        rcases Array.mem_push.1 he with he | rfl
        · exact h2 e he hb
        · exact h3
  · simp [hj]
/-- What is asked of the two: the one that floats waits for nothing that the other does not wait for, and stands apart from all that does not wait for it. -/
def edgeB (l : List Oper) (n p : Nat) : Bool :=
  Region.noSelect l.toArray && decide (p < l.length) && decide (p ≠ n) &&
  match l[n]?, l[p]? with
  | some on, some op => (op.after.all fun e => !Region.binds .any e || on.after.any fun e' => Region.binds .any e' && e'.on == e.on) && op.guard.isNone && (match op.op with | .move _ => true | _ => false) &&
      (List.range l.length).all fun j => j == p || (on.after.any fun e => Region.binds .any e && e.on == j) || match l[j]? with
        | some oj => oj.after.any (fun e => Region.binds .any e && e.on == p) || op.apart l.toArray oj
        | none => true
  | _, _ => false
theorem wpAny_edge (hB : edgeB l n p = true) (hQ : ∀ c a v t w, Q (.panic c) (a.put (some t) v) w → Q (.panic c) a w) : ∀ (f : Nat) (listed : Array Bool) (a : Act) (w : World), listed.size = l.length →
    wpAny P .any (addEdge l n p).toArray Q f listed a w → wpAny P .any l.toArray Q f listed a w := by
  unfold edgeB at hB
  split at hB
  case h_2 => simp at hB
  rename_i on op hn hp
  simp only [Bool.and_eq_true, decide_eq_true_eq, List.all_eq_true, Bool.or_eq_true, Bool.not_eq_true', List.any_eq_true, List.mem_range, beq_iff_eq, Array.all_eq_true', Array.any_eq_true'] at hB
  obtain ⟨⟨⟨hsel, hpl⟩, hpn⟩, ⟨⟨hdep, hgd⟩, hex⟩, hap⟩ := hB
  have hpr : ∀ listed : Array Bool, n ∈ Region.ready .any l.toArray listed → listed.getD p true = false → p ∈ Region.ready .any l.toArray listed := fun listed h1 h2 => by
    obtain ⟨_, o', ho', hall⟩ := mem_ready.1 h1
    obtain rfl : on = o' := Option.some.inj (hn.symm.trans (by simpa using ho'))
    refine mem_ready.2 ⟨h2, op, by simpa using hp, fun e he hb => ?_⟩
    rcases hdep e he with h3 | ⟨e', he', hb', heq⟩
    · rw [hb] at h3; cases h3
    · rw [← heq]; exact hall e' he' hb'
  obtain ⟨x, hopx⟩ : ∃ x, op.op = .move x := by
    cases hq : op.op <;> simp [hq] at hex
    exact ⟨_, rfl⟩
  have hgn : op.guard = none := by simpa using hgd
  intro f
  induction f with
  | zero =>
    rintro listed a w hsz ⟨h1, h2⟩
    refine ⟨List.eq_nil_iff_forall_not_mem.2 fun j hj => ?_, h2⟩
    have hno : ∀ j, ¬ j ∈ Region.ready .any (addEdge l n p).toArray listed := fun j h => by rw [h1] at h; cases h
    by_cases hjn : j = n
    · subst hjn
      by_cases hu : listed.getD p true = false
      · exact hno p (edge_ready.2 ⟨hpr listed hj hu, fun e => absurd e hpn⟩)
      · exact hno j (edge_ready.2 ⟨hj, fun _ => by
          have : p < listed.size := by omega
          simp [Array.getD, this] at hu ⊢; exact hu⟩)
    · exact hno j (edge_ready.2 ⟨hj, fun e => absurd e hjn⟩)
  | succ f ih =>
    rintro listed a w hsz ⟨h1, h2⟩
    by_cases hc : n ∈ Region.ready .any l.toArray listed ∧ listed.getD p true = false
    · have hp1 := hpr listed hc.1 hc.2
      have := h2 p (edge_ready.2 ⟨hp1, fun e => absurd e hpn⟩)
      rw [edge_op] at this
      obtain ⟨v, hy, hk⟩ := move_op (by simpa using hp) hopx hgn this
      refine wpAny_take (oi := op) (by simpa using hp) hsel ?_ (by simpa using hp1) (fun c a w h => ?_) hy (ih _ _ _ (by simpa using hsz) hk)
      · unfold Region.free
        simp only [List.getElem?_toArray, hp]
        rw [List.all_eq_true]
        intro j hj
        have hjl : j < l.length := by simpa using hj
        rcases hap j hjl with (h3 | ⟨e, he, hb, h3⟩) | h3
        · simp [h3]
        · obtain ⟨_, o', ho', hall⟩ := mem_ready.1 hc.1
          obtain rfl : on = o' := Option.some.inj (hn.symm.trans (by simpa using ho'))
          have h4 := hall e he hb
          rw [h3] at h4
          have : listed.getD j true = true := by
            have : j < listed.size := by omega
            simp [Array.getD, this] at h4 ⊢; exact h4
          simp [this]
        · simp only [Bool.or_eq_true]
          refine .inr ?_
          cases hq : l[j]? with
          | none => rfl
          | some oj => rw [hq] at h3; simpa using h3
      · cases hd : op.dst with
        | none => rw [hd] at h; exact h
        | some t => rw [hd] at h; exact hQ c a v t w h
    · have hmem : ∀ j, j ∈ Region.ready .any l.toArray listed → j ∈ Region.ready .any (addEdge l n p).toArray listed := fun j hj => edge_ready.2 ⟨hj, fun e => by
        subst e
        have h3 : ¬ listed.getD p true = false := fun h => hc ⟨hj, h⟩
        have : p < listed.size := by omega
        simp [Array.getD, this] at h3 ⊢; exact h3⟩
      refine ⟨fun h => h1 (List.eq_nil_iff_forall_not_mem.2 fun j hj => ?_), fun i hi => ?_⟩
      · have := (edge_ready.1 hj).1; rw [h] at this; cases this
      · have := h2 i (hmem i hi)
        rw [edge_op] at this
        exact wpOp_mono (fun a w h => ih _ _ _ (by simpa using hsz) h) this
/-- Edges to some moves. -/
def addEdges (l : List Oper) (n : Nat) : List Nat → List Oper
  | [] => l
  | p :: ps => addEdges (addEdge l n p) n ps
def edgesB (l : List Oper) (n : Nat) : List Nat → Bool
  | [] => true
  | p :: ps => edgeB l n p && edgesB (addEdge l n p) n ps
theorem addEdges_len : ∀ (ps : List Nat) (l : List Oper) (n : Nat), (addEdges l n ps).length = l.length
  | [], _, _ => rfl
  | p :: ps, l, n => (addEdges_len ps _ n).trans (addEdge_len l n p)
theorem wpAny_edges (hQ : ∀ c a v t w, Q (.panic c) (a.put (some t) v) w → Q (.panic c) a w) : ∀ (ps : List Nat) (l : List Oper) (n f : Nat) (listed : Array Bool) (a : Act) (w : World), listed.size = l.length → edgesB l n ps = true →
    wpAny P .any (addEdges l n ps).toArray Q f listed a w → wpAny P .any l.toArray Q f listed a w := by
  intro ps
  induction ps with
  | nil => exact fun l n f listed a w _ _ h => h
  | cons p ps ih =>
    intro l n f listed a w hs hB h
    simp only [edgesB, Bool.and_eq_true] at hB
    exact wpAny_edge hB.1 hQ f listed a w hs (ih (addEdge l n p) n f listed a w (by rw [addEdge_len]; exact hs) hB.2 h)
variable {E : World → World → Prop} {C : World → Prop} {T : Nat → Option (Value → World → Prop)}
/-- All operations but a tail in a forced order; moves that the tail's first does not wait for are taken ahead of it. -/
theorem wp_region_shut_edges {id : Nat} {a : Act} {w : World} {l l' : List Oper} (E : World → World → Prop) (C : World → Prop) (T : Nat → Option (Value → World → Prop)) (n : Nat) (ps : List Nat) (hm : P.follows .mixedOrders = true) (hl : addEdges l n ps = l') (hE : edgesB l n ps = true)
    (hQ : ∀ c a v t w, Q (.panic c) (a.put (some t) v) w → Q (.panic c) a w) (hB : Region.lexTailB .any l'.toArray n = true)
    (hC : Up E C) (hT : ∀ i R, T i = some R → ∀ v, Up E (R v)) (hw : C w.drew)
    (h : WM P .any l'.toArray E C T (fun a' F' => ∀ w', C w' → (∀ k, F' k w') → wpList P l'.toArray Q (l'.drop n) a' w') (l'.take n) 0 a noFacts) : (Code.region id l.toArray true).wp P Q a w := by
  have h := h.out
  simp only [Region.lexTailB, Bool.and_eq_true, decide_eq_true_eq] at hB
  obtain ⟨⟨⟨⟨hsel, hn⟩, hs⟩, hc⟩, hlex⟩ := hB
  have hn' : n < l'.length := by simpa using hn
  have htl : (l'.take n).length = n := by simp; omega
  have hdl : (l'.drop n).length = l'.toArray.size - n := by simp
  have inv0 : HeadInv .any l'.toArray n (Array.replicate l'.toArray.size false) :=
    ⟨by simp, fun j oj _ hl => (by rw [getD_replicate_false] at hl; cases hl), fun t _ ht => getD_in (by simpa using ht) (getD_replicate_false _ _)⟩
  have H := wpAnyM_lex (md := .any) (g := l'.toArray.size - n) hC hT hsel (fun listed inv i hi hun t ht => tail_waits hs hc hn inv _ i rfl hi hun t ht) (l'.take n) 0 _ a noFacts (fun j hj => by
    have hj' : j < n := by rw [htl] at hj; exact hj
    simp [hj']) (by simpa using htl) (fun _ _ _ _ _ => trivial) ⟨_, hw, fun _ => trivial⟩ (fun _ _ _ => trivial) inv0 (by rw [htl]; exact hlex) h
  refine wp_region_any hm ?_
  have := wpAny_of_M (Q' := Q) (g := l'.toArray.size - n) hC hT (fun listed a' F' w' hL hw' hF' => by
    have := wpAny_of_seq (md := .any) (Q' := Q) (l'.drop n) n listed a' w' (fun j => by simp [List.getElem?_drop]) (by rw [hdl]; exact hL.1) (hL.2 w' hw' hF')
    rwa [hdl] at this) _ _ _ _ _ (fun _ _ _ _ _ => trivial) hw (fun _ => trivial) H
  rw [htl, show n + (l'.toArray.size - n) = l'.toArray.size by omega] at this
  have hll : l'.toArray.size = l.toArray.size := by rw [← hl]; simp [addEdges_len]
  rw [hll] at this
  refine wpAny_edges hQ ps l n _ _ _ _ (by simp) hE ?_
  rw [hl]
  exact this
end
end Go.Proofs.YtlonpgbapiemcaaGreat

namespace Go.Proofs.YtlonpgbapiemcaaGreat
open Go Go.RowKit
set_option linter.unusedVariables false
set_option linter.unusedSimpArgs false

/-- Where the rows of a fog lie. -/
structure Ads where
  a1 : Option Addr
  c1 : Nat
  a2 : Option Addr
  c2 : Nat
  a3 : Option Addr
  c3 : Nat
abbrev Ads.val (s : Ads) (f : Fg) : Value := fval f s.a1 s.c1 s.a2 s.c2 s.a3 s.c3
def dkcells (s : Ads) (f : Fg) (g : Mat) : List Value :=
  .int .i64 f.pl :: .int .i64 f.mi :: .slice s.a1 f.tr.length s.c1 :: .slice s.a2 f.bl.length s.c2 :: .slice s.a3 f.ct.length s.c3 :: (gl g).map (.int .i64)
/-- Block D is a fog at work with the distances g. -/
def Dk (w : World) (D : Nat) (s : Ads) (f : Fg) (g : Mat) : Prop := w.heap[D]? = some (.cells (dkcells s f g).toArray 107 (0, 0))
/-- The rows of a fog lie there. -/
structure FRows (w : World) (s : Ads) (f : Fg) : Prop where
  tr : Prs w s.a1 f.tr
  bl : Blasts w s.a2 f.bl
  ct : Carts w s.a3 f.ct
  cap : f.tr.length ≤ s.c1 ∧ f.bl.length ≤ s.c2 ∧ f.ct.length ≤ s.c3
theorem FRows.kc {w w' : World} {s : Ads} {f : Fg} (h : FRows w s f) (hx : Kc w w') : FRows w' s f := ⟨h.tr.kc hx, h.bl.kc hx, h.ct.kc hx, h.cap⟩
theorem FRows.ext {w w' : World} {s : Ads} {f : Fg} (h : FRows w s f) (hx : Ext w w') : FRows w' s f := h.kc hx.kc
theorem FgR.rows {w : World} {v : Value} {f : Fg} (h : FgR w v f) : ∃ s : Ads, v = s.val f ∧ FRows w s f := by
  obtain ⟨A1, c1, A2, c2, A3, c3, e, h1, h2, h3, h4⟩ := h
  exact ⟨⟨A1, c1, A2, c2, A3, c3⟩, e, h1, h2, h3, h4⟩
theorem FRows.fg {w : World} {s : Ads} {f : Fg} (h : FRows w s f) : FgR w (s.val f) f := ⟨_, _, _, _, _, _, rfl, h.tr, h.bl, h.ct, h.cap⟩
section
variable {w w' : World} {D : Nat} {s : Ads} {f : Fg} {g : Mat}
theorem Dk.lt (h : Dk w D s f g) : D < w.heap.size := (Array.getElem?_eq_some_iff.1 h).1
theorem Dk.ext (h : Dk w D s f g) (hx : Ext w w') : Dk w' D s f g := (Below.block hx D h.lt).trans h
theorem Dk.cell (h : Dk w D s f g) (i : Nat) : w.cell? ⟨D, i, none⟩ = (dkcells s f g)[i]? := by
  rw [cell_of_row w D i _ _ _ h]; simp
theorem Dk.at_ (h : Dk w D s f g) {a b : Nat} (ha : a < 8) (hb : b < 8) : w.cell? ⟨D, 5 + a * 8 + b, none⟩ = some (.int .i64 (g a b)) := by
  rw [h.cell, show 5 + a * 8 + b = (a * 8 + b) + 5 by omega]
  simp [dkcells, gl_get g a b ha hb]
theorem Dk.pl (h : Dk w D s f g) : w.cell? ⟨D, 0, none⟩ = some (.int .i64 f.pl) := by rw [h.cell]; rfl
theorem Dk.mi (h : Dk w D s f g) : w.cell? ⟨D, 1, none⟩ = some (.int .i64 f.mi) := by rw [h.cell]; rfl
theorem Dk.tr (h : Dk w D s f g) : w.cell? ⟨D, 2, none⟩ = some (.slice s.a1 f.tr.length s.c1) := by rw [h.cell]; rfl
theorem Dk.bl (h : Dk w D s f g) : w.cell? ⟨D, 3, none⟩ = some (.slice s.a2 f.bl.length s.c2) := by rw [h.cell]; rfl
theorem Dk.ct (h : Dk w D s f g) : w.cell? ⟨D, 4, none⟩ = some (.slice s.a3 f.ct.length s.c3) := by rw [h.cell]; rfl
theorem Dk.frozen (h : Dk w D s f g) (i : Nat) : w.frozen? ⟨D, i, none⟩ = false := by
  unfold Dk at h
  simp [World.frozen?, h]
theorem Dk.set (h : Dk w D s f g) {a b : Nat} (ha : a < 8) (hb : b < 8) (x : Int) : Dk (w.setCell ⟨D, 5 + a * 8 + b, none⟩ (.int .i64 x)) D s f (upd g a b x) := by
  unfold Dk at h ⊢
  simp only [World.setCell, Array.getElem?_modify, h, if_true, Option.map_some]
  have e : 5 + a * 8 + b = a * 8 + b + 1 + 1 + 1 + 1 + 1 := by omega
  simp only [e, dkcells, List.setIfInBounds_toArray, List.set_cons_succ, gl_upd g a b x ha hb, List.map_set, Option.isSome_none, Bool.false_eq_true, if_false]
theorem Dk.congr {g' : Mat} (h : Dk w D s f g) (he : Eq8 g g') : Dk w D s f g' := by
  unfold Dk dkcells at *
  rw [← gl_congr he]; exact h
end
/-- The value of a pointer to a fog at work. -/
def DkR (w : World) (v : Value) (f : Fg) : Prop := ∃ D s, v = .pointer (some ⟨D, 0, none⟩) ∧ Dk w D s f (farM f) ∧ FRows w s f
theorem DkR.ext {w w' : World} {v : Value} {f : Fg} (h : DkR w v f) (hx : Ext w w') : DkR w' v f := by
  obtain ⟨D, s, e, h1, h2⟩ := h
  exact ⟨D, s, e, h1.ext hx, h2.ext hx⟩

/-! ### What the loops make -/
theorem ite_iff {α : Type} {p q : Prop} [Decidable p] [Decidable q] (h : p ↔ q) (x y : α) : (if p then x else y) = if q then x else y := by
  by_cases hp : p
  · rw [if_pos hp, if_pos (h.1 hp)]
  · rw [if_neg hp, if_neg (fun hq => hp (h.2 hq))]
/-- Behind the places ahead of (a, b). -/
def tillAB (h g : Mat) (a b : Nat) : Mat := fun x y => if x < a ∨ (x = a ∧ y < b) then h x y else g x y
theorem till_none (h g : Mat) : Eq8 (tillAB h g 0 0) g := fun x y _ _ => by unfold tillAB; rw [if_neg (by omega)]
theorem till_row (h g : Mat) (a : Nat) {b : Nat} (hb : 8 ≤ b) : Eq8 (tillAB h g a b) (tillAB h g (a + 1) 0) := fun x y _ hy => by
  unfold tillAB; exact ite_iff (by omega) _ _
theorem till_all (h g : Mat) {a : Nat} (ha : 8 ≤ a) : Eq8 (tillAB h g a 0) h := fun x y hx _ => by unfold tillAB; rw [if_pos (by omega)]
theorem till_set (h g : Mat) (a b : Nat) : Eq8 (upd (tillAB h g a b) a b (h a b)) (tillAB h g a (b + 1)) := fun x y _ _ => by
  unfold upd tillAB
  by_cases e : x = a ∧ y = b
  · obtain ⟨rfl, rfl⟩ := e
    rw [if_pos ⟨rfl, rfl⟩, if_pos (by omega)]
  · rw [if_neg e]; exact ite_iff (by omega) _ _
theorem till_same (h g : Mat) (a b : Nat) (e : h a b = g a b) : Eq8 (tillAB h g a b) (tillAB h g a (b + 1)) := fun x y _ _ => by
  unfold tillAB
  by_cases q : x = a ∧ y = b
  · obtain ⟨rfl, rfl⟩ := q
    rw [if_neg (by omega), if_pos (by omega), e]
  · exact ite_iff (by omega) _ _
/-- The places that a round over one more place reads stand as they were. -/
theorem till_over {g : Mat} (hd : Dst g) {m a b : Nat} (hm : m < 8) (ha : a < 8) (hb : b < 8) :
    tillAB (over g m) g a b a b = g a b ∧ tillAB (over g m) g a b a m = g a m ∧ tillAB (over g m) g a b m b = g m b := by
  refine ⟨?_, ?_, ?_⟩
  · unfold tillAB; rw [if_neg (by omega)]
  · unfold tillAB; split
    · exact over_col hd hm ha
    · rfl
  · unfold tillAB; split
    · exact over_row hd hm hb
    · rfl
theorem till_dst {g : Mat} (hd : Dst g) {m : Nat} (hm : m < 8) (a b : Nat) : ∀ x y, x < 8 → y < 8 → 0 ≤ tillAB (over g m) g a b x y ∧ tillAB (over g m) g a b x y ≤ noWay := fun x y hx hy => by
  unfold tillAB
  split
  · exact ⟨(hd.over hm).lo x y hx hy, (hd.over hm).hi x y hx hy⟩
  · exact ⟨hd.lo x y hx hy, hd.hi x y hx hy⟩
theorem far0_ne {a b : Nat} (h : a ≠ b) : far0 a b = 100 := by unfold far0 noWay; rw [if_neg h]
theorem far0_eq (a : Nat) : far0 a a = 0 := by unfold far0; rw [if_pos rfl]
end Go.Proofs.YtlonpgbapiemcaaGreat

namespace Go.Proofs.YtlonpgbapiemcaaGreat
open Go Go.RowKit Go.Shelf Go.Maps
set_option linter.unusedVariables false
set_option linter.unusedSimpArgs false

set_option maxRecDepth 100000
theorem spotLaid : laidOutB Tryz.prog = true := by kernel_rfl
theorem spotRow : (205 : TypeId) < Tryz.prog.types.size := of_decide_eq_true (by kernel_rfl)
theorem spotWide : (match Tryz.prog.underlying 205 with | some (.array _ _) | some (.struct _) => true | _ => false) = true := by rw [Tryz.underlying205]
theorem keySpot : Keyed Tryz.prog 205 := Keyed.of_law (deep_law_laid spotLaid (m := 2) (by omega) spotRow (by kernel_rfl) spotWide)
theorem spotTiled : Tryz.prog.tiled 2 205 = true := tiled_of_laidOut spotLaid 2 _ (by kernel_rfl) (by kernel_rfl)
def spotL (a x : Int) : Lit := .string (keyBytes [.int .i64 a, .int .i64 x])
theorem spotType : Tryz.prog.keyType 205 = true := by kernel_rfl
theorem cellsSpot : Tryz.prog.cellsOf 205 = 2 := by kernel_rfl
theorem cellsInt : Tryz.prog.cellsOf 3 = 1 := by kernel_rfl
theorem spotSize : ∃ m, Tryz.prog.types.size = m + 1 := ⟨Tryz.prog.types.size - 1, (Nat.succ_pred_eq_of_pos (Nat.lt_of_le_of_lt (Nat.zero_le _) spotRow)).symm⟩
theorem keyOf_spot {a x : Int} (wa : (Lit.int .i64 a).wf = true) (wx : (Lit.int .i64 x).wf = true) : keyOf Tryz.prog 205 (.agg #[.int .i64 a, .int .i64 x]) = some (spotL a x) := by
  obtain ⟨m, hm⟩ := spotSize
  unfold keyOf spotL
  simp only [Tryz.underlying205]
  rw [if_pos (by simp [spotType, Value.formed, Tryz.underlying205, cellsSpot]), hm]
  unfold Program.keyLits
  simp only [Tryz.underlying205, Value.cells]
  rw [if_pos ⟨by rw [cellsSpot]; rfl, by decide +kernel⟩]
  simp [cellsInt, Program.keyLits, Tryz.underlying3, wa, wx]
theorem spotL_inj {a b x y : Int} (wa : (Lit.int .i64 a).wf = true) (wx : (Lit.int .i64 x).wf = true) (wy : (Lit.int .i64 y).wf = true) (wb : (Lit.int .i64 b).wf = true) (h : spotL a x = spotL b y) : a = b ∧ x = y := by
  have h1 := keyOf_spot wa wx
  have h2 := keyOf_spot wb wy
  rw [← h] at h2
  have := keyOf_inj_deep spotTiled spotWide h1 h2
  simpa using this
theorem spotL_lit (a x : Int) : WideAt.IsKeyLit (spotL a x) := trivial

/-! A map of spots: what it says of each minute and place -/
def MapSp (w : World) (M n : Nat) (v : Nat → Nat → Int) : Prop := ∃ D : DataW Unit, w.ownsMap Tryz.prog 205 (plainElem Tryz.prog 3) M n D ∧ ∀ m p : Nat, m < 100 → p < 100 → D.atKey (spotL m p) (.lit (.int .i64 0)) = .lit (.int .i64 (v m p))
theorem MapSp.mono {w : World} {M n m : Nat} {v : Nat → Nat → Int} (h : MapSp w M n v) (hm : n ≤ m) : MapSp w M m v := by
  obtain ⟨D, h1, h2⟩ := h
  exact ⟨D, h1.mono hm, h2⟩
theorem MapSp.lt {w : World} {M n : Nat} {v : Nat → Nat → Int} (h : MapSp w M n v) : M < w.heap.size := by
  obtain ⟨D, h1, h2⟩ := h
  exact h1.lt
theorem MapSp.kept {w w' : World} {M n : Nat} {v : Nat → Nat → Int} {row : Option Nat} (h : MapSp w M n v) (hg : w.grownBy w' row) (hn : some M ≠ row) : MapSp w' M n v := by
  obtain ⟨D, h1, h2⟩ := h
  exact ⟨D, h1.kept hg hn, h2⟩
theorem MapSp.heap {w w' : World} {M n : Nat} {v : Nat → Nat → Int} (h : MapSp w M n v) (he : w'.heap[M]? = w.heap[M]?) : MapSp w' M n v := by
  obtain ⟨D, ⟨es, cl, hb, F, hs, hD⟩, h2⟩ := h
  exact ⟨D, ⟨es, cl, he.trans hb, F, hs, hD⟩, h2⟩
theorem MapSp.ext {w w' : World} {M n : Nat} {v : Nat → Nat → Int} (h : MapSp w M n v) (hx : Ext w w') : MapSp w' M n v := h.heap (Below.block hx M h.lt)
theorem MapSp.bel {D : Nat} {w w' : World} {M n : Nat} {v : Nat → Nat → Int} (h : MapSp w M n v) (hx : Bel D w w') (hn : M ≠ D) : MapSp w' M n v := h.heap (hx.2 M h.lt hn)
theorem MapSp.setCell {w : World} {M n : Nat} {v : Nat → Nat → Int} (h : MapSp w M n v) (p : Addr) (u : Value) (hp : M ≠ p.block) : MapSp (w.setCell p u) M n v := h.heap (heap_setCell_ne _ _ _ _ hp)
theorem MapSp.start (w : World) : MapSp (w.alloc (.map #[] 0)) w.heap.size 0 (fun _ _ => 0) := ⟨.map [], World.ownsMap_made _ _ _ _, fun _ _ _ _ => rfl⟩
theorem MapSp.congr {w : World} {M n : Nat} {v v' : Nat → Nat → Int} (h : MapSp w M n v) (e : ∀ m p, m < 100 → p < 100 → v m p = v' m p) : MapSp w M n v' := by
  obtain ⟨D, h1, h2⟩ := h
  exact ⟨D, h1, fun m p hm hp => by rw [h2 m p hm hp, e m p hm hp]⟩
theorem wf100 {x : Nat} (h : x < 100) : (Lit.int .i64 (x : Int)).wf = true := WalkArith.wf_i64 (by omega)
def updS (v : Nat → Nat → Int) (m p : Nat) (x : Int) : Nat → Nat → Int := fun a b => if a = m ∧ b = p then x else v a b
theorem spot_put {D : DataW Unit} {v : Nat → Nat → Int} (hD : IsMap D) (h : ∀ m p : Nat, m < 100 → p < 100 → D.atKey (spotL m p) (.lit (.int .i64 0)) = .lit (.int .i64 (v m p))) {a b : Nat} (ha : a < 100) (hb : b < 100) (x : Int) :
    ∀ m p : Nat, m < 100 → p < 100 → (D.put (spotL a b) (.lit (.int .i64 x))).atKey (spotL m p) (.lit (.int .i64 0)) = .lit (.int .i64 (updS v a b x m p)) := fun m p hm hp => by
  unfold updS
  by_cases e : m = a ∧ p = b
  · obtain ⟨rfl, rfl⟩ := e
    rw [if_pos ⟨rfl, rfl⟩, atKey_put_same hD (spotL_lit _ _)]
  · rw [if_neg e, atKey_put_other (fun q => e (by have := spotL_inj (wf100 hm) (wf100 hp) (wf100 hb) (wf100 ha) q; omega))]
    exact h m p hm hp
end Go.Proofs.YtlonpgbapiemcaaGreat

namespace Go.Proofs.YtlonpgbapiemcaaGreat
open Go Go.RowKit Go.Shelf Go.Maps Go.ChangeMaps Go.MapKept
open Go.WideElems (Fit findIdx_born findIdx_arr modify_last set_self)
set_option linter.unusedVariables false
set_option linter.unusedSimpArgs false

def spotV (m p : Int) : Value := .agg #[.int .i64 m, .int .i64 p]
/-- All blocks but M as they were; M as it was, or with an entry more, of the key, that holds nought. -/
def Ent (M : Nat) (key : Value) (w w' : World) : Prop := Bel M w w' ∧ (w'.heap[M]? = w.heap[M]? ∨ ∃ es clock, w.heap[M]? = some (.map es clock) ∧ (∀ x ∈ es.toList, x.key ≠ key) ∧ w'.heap[M]? = some (.map (es.push ⟨key, .int .i64 0, clock⟩) (clock + 1)))
theorem Ent.refl (M : Nat) (key : Value) (w : World) : Ent M key w w := ⟨Bel.refl _ _, .inl rfl⟩
theorem Ent.ext {M : Nat} {key : Value} {w w' : World} (h : Ext w w') (hM : M < w.heap.size) : Ent M key w w' := ⟨h.bel, .inl (Below.block h M hM)⟩
theorem Ent.drew {M : Nat} {key : Value} (w : World) : Ent M key w w.drew := ⟨(Ext.drew (Ext.refl w)).bel, .inl rfl⟩
theorem Ent.trans {M : Nat} {key : Value} {a b c : World} (h : Ent M key a b) (k : Ent M key b c) : Ent M key a c := by
  refine ⟨h.1.trans k.1, ?_⟩
  rcases h.2 with h2 | ⟨es, cl, h2, h3, h4⟩
  · rcases k.2 with k2 | ⟨es', cl', k2, k3, k4⟩
    · exact .inl (k2.trans h2)
    · exact .inr ⟨es', cl', h2 ▸ k2, k3, k4⟩
  · rcases k.2 with k2 | ⟨es', cl', k2, k3, k4⟩
    · exact .inr ⟨es, cl, h2, h3, k2.trans h4⟩
    · rw [h4] at k2
      cases k2
      exact absurd rfl (k3 ⟨key, .int .i64 0, cl⟩ (by simp))
theorem Ent.bel {M : Nat} {key : Value} {w w' : World} (h : Ent M key w w') : Bel M w w' := h.1

theorem zeroI (w : World) : (zeroValue 3).run Tryz.prog w = .ok (.int .i64 0) w := by kernel_rfl
theorem put_key {w : World} {es : Array MapEntry} {clock : Nat} {M : Nat} {m p : Nat} (hm : m < 100) (hp : p < 100) (hb : w.heap[M]? = some (.map es clock)) (F : Fit Tryz.prog 205 (plainElem (H := Unit) Tryz.prog 3) es clock) (x : Int) :
    ((∀ e ∈ es.toList, e.key ≠ spotV m p) ∧ (Instr.mapUpdate 202 (.map (some M)) (spotV m p) (.int .i64 x)).run Tryz.prog w = .ok () (setBlock w M (.map (es.push ⟨spotV m p, .int .i64 x, clock⟩) (clock + 1)))) ∨
    ∃ j e0, es[j]? = some e0 ∧ e0.key = spotV m p ∧ (Instr.mapUpdate 202 (.map (some M)) (spotV m p) (.int .i64 x)).run Tryz.prog w = .ok () (setBlock w M (.map (es.modify j fun e' => { e' with key := spotV m p, val := .int .i64 x }) clock)) := by
  have hkey := keyOf_spot (wf100 hm) (wf100 hp)
  rcases keySpot.find w hkey es.toList F.keys with ⟨h1, h2⟩ | ⟨j, e0, h1, h2, h3⟩
  · refine .inl ⟨h2, ?_⟩
    simp [Instr.mapUpdate, spotV, run_underlying Tryz.underlying202, MapKept.run_getObj_map hb, keySpot.check w false hkey, h1, MapKept.run_setObj_map _ hb, Result.andThen, setBlock]
  · have hj : es[j]? = some e0 := by simpa using h2
    refine .inr ⟨j, e0, hj, h3, ?_⟩
    simp [Instr.mapUpdate, spotV, run_underlying Tryz.underlying202, MapKept.run_getObj_map hb, keySpot.check w false hkey, h1, hj, h3, keySpot.stays w hkey, MapKept.run_setObj_map _ hb, Result.andThen, setBlock]
theorem ownsMap_block {P : Program} {k : TypeId} {R : Value → Option (DataW Unit × List MemPlace)} {M n : Nat} {D : DataW Unit} {w w' : World} (h : w.ownsMap P k R M n D) (he : w'.heap[M]? = w.heap[M]?) : w'.ownsMap P k R M n D := by
  obtain ⟨es, cl, hb, F, hs, hD⟩ := h
  exact ⟨es, cl, he.trans hb, F, hs, hD⟩
/-- With an entry more that holds nought the map says what it said. -/
theorem MapSp.ent {w w' : World} {M n : Nat} {v : Nat → Nat → Int} {m p : Nat} (h : MapSp w M n v) (hm : m < 100) (hp : p < 100) (hn : n < maxLen) (he : Ent M (spotV m p) w w') : MapSp w' M (n + 1) v := by
  rcases he.2 with e | ⟨es, cl, hb, hno, hb'⟩
  · exact (h.heap e).mono (Nat.le_succ _)
  · obtain ⟨D, hD, hv⟩ := h
    have hkey := keyOf_spot (wf100 hm) (wf100 hp)
    have hpl := plainElem_int (H := Unit) Tryz.underlying3 (show (Lit.int .i64 0).wf = true by decide)
    obtain ⟨w2, hrun, hD2, hg⟩ := hD.update keySpot Tryz.underlying202 hn hkey hpl
    have hI := hD.isMap
    obtain ⟨es2, cl2, hb2, F, hs, hDD⟩ := hD
    rw [hb] at hb2
    cases hb2
    have h0 : D.atKey (spotL m p) (.lit (.int .i64 0)) = .lit (.int .i64 0) := by
      rw [hDD]
      rcases Maps.fit_look false keySpot Tryz.underlying202 (zeroI w) hb F hkey with ⟨_, _, hat⟩ | ⟨e0, y, he0, hk0, _⟩
      · exact hat _
      · exact absurd hk0 (hno e0 he0)
    rcases put_key hm hp hb F 0 with ⟨_, hrun2⟩ | ⟨j, e0, hj, hk0, _⟩
    · have hrun' : (Instr.mapUpdate 202 (.map (some M)) (spotV m p) (.int .i64 0)).run Tryz.prog w = .ok () w2 := hrun
      rw [hrun2] at hrun'
      cases hrun'
      refine ⟨_, ownsMap_block hD2 ?_, fun a b ha hb1 => ?_⟩
      · rw [hb', heap_setBlock_same hb]
      · rw [spot_put hI hv hm hp 0 a b ha hb1]
        unfold updS
        split
        · rename_i e
          obtain ⟨rfl, rfl⟩ := e
          have := hv a b ha hb1
          rw [h0] at this
          rw [← this]
        · rfl
    · exact absurd hk0 (hno e0 (by simpa using List.mem_of_getElem? (l := es.toList) (by simpa using hj)))

/-- The entry stands, and its stamp finds it. -/
def EntAt (M m p n : Nat) (v : Nat → Nat → Int) (st : Int) (w : World) : Prop := ∃ es cl, w.heap[M]? = some (.map es cl) ∧ (∃ x ∈ es.toList, x.key = spotV m p) ∧
  ∀ (w2 : World) (x : Int), w2.heap[M]? = some (.map es cl) → (Lit.int .i64 x).wf = true → ∃ w3, (Instr.entryStore 202 (.map (some M)) (.int .i64 st) (.int .i64 x)).run Tryz.prog w2 = .ok () w3 ∧ MapSp w3 M (n + 1) (updS v m p x) ∧ w2.grownBy w3 (some M)
theorem EntAt.up {M m p n : Nat} {v : Nat → Nat → Int} {st : Int} {w w' : World} (h : EntAt M m p n v st w) (he : Ent M (spotV m p) w w') : EntAt M m p n v st w' := by
  obtain ⟨es, cl, hb, hx, hs⟩ := h
  rcases he.2 with e | ⟨es2, cl2, hb2, hno, _⟩
  · exact ⟨es, cl, e.trans hb, hx, hs⟩
  · rw [hb] at hb2
    cases hb2
    obtain ⟨x, hx1, hx2⟩ := hx
    exact absurd hx2 (hno x hx1)
theorem grown_setBlock {w : World} {es : Array MapEntry} {cl M : Nat} (hb : w.heap[M]? = some (.map es cl)) (o : Obj) : w.grownBy (setBlock w M o) (some M) :=
  ⟨rfl, rfl, rfl, by simp [setBlock], fun i _ hi => heap_setBlock_other hb _ (fun e => hi (by rw [e]))⟩
theorem MapSp.entry {w : World} {M n : Nat} {v : Nat → Nat → Int} {m p : Nat} (h : MapSp w M n v) (hm : m < 100) (hp : p < 100) (hn : n < maxLen) :
    ∃ v0 st w1, (Instr.mapEntry 202 (.map (some M)) (spotV m p)).run Tryz.prog w = .ok (.tuple #[v0, .int .i64 st]) w1 ∧ Ent M (spotV m p) w w1 ∧ EntAt M m p n v st w1 := by
  obtain ⟨D, hD, hv⟩ := h
  have hI := hD.isMap
  have hkey := keyOf_spot (wf100 hm) (wf100 hp)
  have hup : ∀ x : Int, (Lit.int .i64 x).wf = true → ∀ w', (Instr.mapUpdate 202 (.map (some M)) (spotV m p) (.int .i64 x)).run Tryz.prog w = .ok () w' → MapSp w' M (n + 1) (updS v m p x) := fun x hx w' hr => by
    obtain ⟨w2, hrun, hD2, hg⟩ := hD.update keySpot Tryz.underlying202 hn hkey (plainElem_int (H := Unit) Tryz.underlying3 hx)
    rw [show (Instr.mapUpdate 202 (.map (some M)) (spotV m p) (.int .i64 x)).run Tryz.prog w = .ok () w2 from hrun] at hr
    cases hr
    exact ⟨_, hD2, spot_put hI hv hm hp x⟩
  obtain ⟨es, clock, hb, F, hs, hDD⟩ := hD
  obtain ⟨s1, s2, _⟩ := F.stamped
  rcases keySpot.find w hkey es.toList F.keys with ⟨h1, h2⟩ | ⟨j, e0, h1, h2, h3⟩
  · have hb1 := heap_setBlock_same hb (.map (es.push ⟨spotV m p, .int .i64 0, clock⟩) (clock + 1))
    refine ⟨.int .i64 0, (clock : Int), setBlock w M (.map (es.push ⟨spotV m p, .int .i64 0, clock⟩) (clock + 1)), ?_, ⟨⟨(Below.refl 0 w).grown (grown_setBlock hb _) (Nat.zero_le _) (fun _ _ => Nat.zero_le _), fun k _ hk => heap_setBlock_other hb _ hk⟩, .inr ⟨es, clock, hb, h2, hb1⟩⟩, _, _, hb1, ⟨_, by simp; exact .inr rfl, rfl⟩, fun w2 x hw2 hx => ?_⟩
    · simp [Instr.mapEntry, spotV, run_underlying Tryz.underlying202, MapKept.run_getObj_map hb, keySpot.check w false hkey, h1, zeroI, MapKept.run_setObj_map _ hb, Result.andThen, setBlock, goInt]
    · have hidx : (es.push ⟨spotV m p, .int .i64 0, clock⟩).findIdx? (fun e => ((e.born : Nat) : Int) == ((clock : Nat) : Int)) = some es.size := by
        rw [findIdx_arr]
        exact findIdx_born (l := (es.push ⟨spotV m p, .int .i64 0, clock⟩).toList) (j := es.size) (e0 := ⟨spotV m p, .int .i64 0, clock⟩) (by
          simp only [Array.toList_push, List.map_append, List.map_cons, List.map_nil]
          refine List.nodup_append.2 ⟨s2, by simp, fun a ha c hc e1 => ?_⟩
          simp only [List.mem_singleton] at hc
          obtain ⟨x, hx, rfl⟩ := List.mem_map.1 ha
          have := s1 x hx
          omega) (by simp)
      have hmod : (es.push ⟨spotV m p, .int .i64 0, clock⟩).modify es.size (fun e => { e with val := .int .i64 x }) = es.push ⟨spotV m p, .int .i64 x, clock⟩ := by
        apply Array.ext'
        rw [Array.toList_modify, Array.toList_push, Array.toList_push, ← Array.length_toList, modify_last]
      refine ⟨setBlock w2 M (.map (es.push ⟨spotV m p, .int .i64 x, clock⟩) (clock + 1)), ?_, ?_, grown_setBlock hw2 _⟩
      · simp [Instr.entryStore, MapKept.run_getObj_map hw2, asInt, asIntOf, hidx, hmod, MapKept.run_setObj_map _ hw2, Result.andThen, setBlock]
      · rcases put_key hm hp hb F x with ⟨_, hr⟩ | ⟨j, e0, hj, hk0, _⟩
        · refine (hup x hx _ hr).heap ?_
          rw [heap_setBlock_same hw2, heap_setBlock_same hb]
        · exact absurd hk0 (h2 e0 (by simpa using List.mem_of_getElem? (l := es.toList) (by simpa using hj)))
  · have hj : es[j]? = some e0 := by simpa using h2
    have h3' : e0.key = spotV m p := h3
    have hsame : es.modify j (fun e => { e with key := spotV m p }) = es := by
      apply Array.ext'
      rw [Array.toList_modify, modify_eq_set _ _ _ _ h2]
      have : ({ e0 with key := spotV m p } : MapEntry) = e0 := by rw [← h3']
      rw [this]
      exact set_self _ _ _ h2
    have hmem : e0 ∈ es.toList := List.mem_of_getElem? h2
    have hsb : setBlock w M (.map es clock) = w := by
      unfold setBlock
      have : w.heap.setIfInBounds M (.map es clock) = w.heap := by
        apply Array.ext_getElem?
        intro i
        rw [Array.getElem?_setIfInBounds]
        split
        · rename_i e; subst e
          split
          · exact hb.symm
          · rename_i hlt
            have := (Array.getElem?_eq_some_iff.1 hb).1
            exact absurd this hlt
        · rfl
      rw [this]
    refine ⟨e0.val, (e0.born : Int), w, ?_, Ent.refl _ _ _, es, clock, hb, ⟨e0, hmem, h3'⟩, fun w2 x hw2 hx => ?_⟩
    · have : (Instr.mapEntry 202 (.map (some M)) (spotV m p)).run Tryz.prog w = .ok (.tuple #[e0.val, .int .i64 (e0.born : Int)]) (setBlock w M (.map es clock)) := by
        have hsame' := hsame
        unfold spotV at hsame' h3'
        simp [Instr.mapEntry, spotV, run_underlying Tryz.underlying202, MapKept.run_getObj_map hb, keySpot.check w false hkey, h1, hj, h3', keySpot.stays w hkey, hsame', MapKept.run_setObj_map _ hb, Result.andThen, setBlock, goInt]
      rw [this, hsb]
    · have hidx : es.findIdx? (fun e => ((e.born : Nat) : Int) == ((e0.born : Nat) : Int)) = some j := by
        rw [findIdx_arr]
        exact findIdx_born s2 h2
      have hmod : es.modify j (fun e => { e with val := .int .i64 x }) = es.modify j (fun e' => { e' with key := spotV m p, val := .int .i64 x }) := by
        apply Array.ext'
        rw [Array.toList_modify, Array.toList_modify, modify_eq_set _ _ _ _ h2, modify_eq_set _ _ _ _ h2, ← h3']
      refine ⟨setBlock w2 M (.map (es.modify j (fun e' => { e' with key := spotV m p, val := .int .i64 x })) clock), ?_, ?_, grown_setBlock hw2 _⟩
      · simp [Instr.entryStore, MapKept.run_getObj_map hw2, asInt, asIntOf, hidx, hmod, MapKept.run_setObj_map _ hw2, Result.andThen, setBlock]
      · have hr2 : (Instr.mapUpdate 202 (.map (some M)) (spotV m p) (.int .i64 x)).run Tryz.prog w = .ok () (setBlock w M (.map (es.modify j fun e' => { e' with key := spotV m p, val := .int .i64 x }) clock)) := by
          have h3'' := h3'
          unfold spotV at h3''
          simp [Instr.mapUpdate, spotV, run_underlying Tryz.underlying202, MapKept.run_getObj_map hb, keySpot.check w false hkey, h1, hj, h3'', keySpot.stays w hkey, MapKept.run_setObj_map _ hb, Result.andThen, setBlock]
        refine (hup x hx _ hr2).heap ?_
        rw [heap_setBlock_same hw2, heap_setBlock_same hb]
/-- A look-up. -/
theorem MapSp.look {w : World} {M n : Nat} {v : Nat → Nat → Int} (h : MapSp w M n v) {m p : Nat} (hm : m < 100) (hp : p < 100) : (Instr.lookup 202 (.map (some M)) (spotV m p) false).run Tryz.prog w = .ok (.int .i64 (v m p)) w := by
  obtain ⟨D, hD, hv⟩ := h
  obtain ⟨c, hrun, hat, _⟩ := hD.lookup_int keySpot Tryz.underlying202 Tryz.underlying3 (zeroI w) (keyOf_spot (wf100 hm) (wf100 hp))
  rw [hv m p hm hp] at hat
  cases hat
  exact hrun
/-- A store. -/
theorem MapSp.put {w : World} {M n : Nat} {v : Nat → Nat → Int} (h : MapSp w M n v) {m p : Nat} (hm : m < 100) (hp : p < 100) (hn : n < maxLen) {x : Int} (hx : (Lit.int .i64 x).wf = true) :
    ∃ w', (Instr.mapUpdate 202 (.map (some M)) (spotV m p) (.int .i64 x)).run Tryz.prog w = .ok () w' ∧ MapSp w' M (n + 1) (updS v m p x) ∧ w.grownBy w' (some M) := by
  obtain ⟨D, hD, hv⟩ := h
  have hI := hD.isMap
  obtain ⟨w2, hrun, hD2, hg⟩ := hD.update keySpot Tryz.underlying202 hn (keyOf_spot (wf100 hm) (wf100 hp)) (plainElem_int (H := Unit) Tryz.underlying3 hx)
  exact ⟨w2, hrun, ⟨_, hD2, spot_put hI hv hm hp x⟩, hg⟩
end Go.Proofs.YtlonpgbapiemcaaGreat
