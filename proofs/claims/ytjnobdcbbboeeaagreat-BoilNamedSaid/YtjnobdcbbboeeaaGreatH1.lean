/- Words for memory that every text of mine uses: 'Ext' (only new blocks, old ones as they were), 'Rd' (a slice's address holds these cells), function values. No program stands here. Numbers in bounds, matrices of eight by eight, the least of a list. No program stands here. Rows of elements that are told by their cells alone. No program stands here. Matchings that grow along ways, and the smallest sets that cover all pairs: what boil's proof computes. No program stands here. Ratios in lowest terms, and how they compare. No program stands here. Sets of numbers: the first list of the fewest numbers for which something holds, by growing lists or by all sets. No program stands here. Houses and weighings as plain records, and what boil says of them. No program stands here. What clashes in a right house: an order; and the smallest sets of weighings that must be false. No program stands here. What boil's exported functions answer, as plain functions. No program stands here. -/
import Derived.WalkKit
import Derived.Handy
import Derived.WalkLawsBesides
import Derived.WalkSpells
import Derived.Deep.LoopGhost
import Derived.Deep.QuietTactic
import Derived.BigQuiet
import Derived.Shelf.Abstract
import Derived.Maps.AppendAt
import Derived.Laws.EntriesVeiled
namespace Go.Proofs.YtjnobdcbbboeeaaGreat
open Go Go.RowKit
set_option linter.unusedVariables false
set_option linter.unusedSimpArgs false

/-- A fact kept from the walk. -/
theorem hid {p : Prop} (h : p) : Hid p := h

/-- w' is w with new blocks; what was there is as it was. -/
def Ext (w w' : World) : Prop := Below w.heap.size w w'
theorem Ext.refl (w : World) : Ext w w := Below.refl _ _
theorem Ext.below {w w' : World} (h : Ext w w') : Below w.heap.size w w' := h
theorem Ext.size {w w' : World} (h : Ext w w') : w.heap.size ≤ w'.heap.size := Below.size h
theorem Ext.trans {a b c : World} (h : Ext a b) (k : Ext b c) : Ext a c := Below.trans h (Below.mono k (Below.size h))
theorem Ext.drew {a w : World} (h : Ext a w) : Ext a w.drew := Below.drew h
theorem Ext.drewN {a w : World} (h : Ext a w) (n : Nat) : Ext a (w.drewN n) := by obtain ⟨h1, h2, h3, h4, h5⟩ := h; exact ⟨h1, h2, h3, h4, h5⟩
theorem Ext.alloc {a w : World} (h : Ext a w) (o : Obj) : Ext a (w.alloc o) := Below.alloc h (Below.size h) o
theorem Ext.setCell {a w : World} (h : Ext a w) {p : Addr} (hp : a.heap.size ≤ p.block) (u : Value) : Ext a (w.setCell p u) := Below.setCell h hp u
theorem Ext.of_below {B : Nat} {a w : World} (h : Below B a w) (hB : a.heap.size ≤ B) : Ext a w := Below.mono h hB
theorem Ext.grown {a w w' : World} {row : Option Nat} (h : Ext a w) (hg : w.grownBy w' row) (hr : ∀ k, row = some k → a.heap.size ≤ k) : Ext a w' := Below.grown h hg (Below.size h) hr
theorem Ext.cell {w w' : World} (h : Ext w w') {p : Addr} {u : Value} (hp : w.cell? p = some u) : w'.cell? p = some u :=
  (Below.cell h (World.block_lt_of_cell? w p hp)).trans hp
theorem Ext.alloc_cell {o : Obj} {a w : World} (h : Ext (a.alloc o) w) : Ext a w := Ext.trans (Ext.alloc (Ext.refl a) _) h

/-- All cells of w are there in w' as they were (whatever became of what is no cells). -/
def Kc (w w' : World) : Prop := ∀ (p : Addr) (u : Value), w.cell? p = some u → w'.cell? p = some u
theorem Ext.kc {w w' : World} (h : Ext w w') : Kc w w' := fun _ _ hp => h.cell hp
theorem Kc.refl (w : World) : Kc w w := fun _ _ h => h
theorem Kc.trans {a b c : World} (h : Kc a b) (k : Kc b c) : Kc a c := fun p u hp => k p u (h p u hp)
theorem Kc.alloc {a w : World} (h : Kc a w) (o : Obj) : Kc a (w.alloc o) := h.trans (Ext.alloc (Ext.refl w) o).kc
theorem Kc.cell {w w' : World} (h : Kc w w') {p : Addr} {u : Value} (hp : w.cell? p = some u) : w'.cell? p = some u := h p u hp
/-- All cells but those of block D are there as they were. -/
def Cel (D : Nat) (w w' : World) : Prop := w.heap.size ≤ w'.heap.size ∧ ∀ (p : Addr) (u : Value), p.block ≠ D → w.cell? p = some u → w'.cell? p = some u
theorem Cel.refl (D : Nat) (w : World) : Cel D w w := ⟨Nat.le_refl _, fun _ _ _ h => h⟩
theorem Cel.trans {D : Nat} {a b c : World} (h : Cel D a b) (k : Cel D b c) : Cel D a c := ⟨Nat.le_trans h.1 k.1, fun p u hp hu => k.2 p u hp (h.2 p u hp hu)⟩
theorem Ext.cel {D : Nat} {w w' : World} (h : Ext w w') : Cel D w w' := ⟨h.size, fun _ _ _ hp => h.cell hp⟩
theorem Cel.cell {D : Nat} {w w' : World} (h : Cel D w w') {p : Addr} {u : Value} (hp : w.cell? p = some u) (hne : p.block ≠ D) : w'.cell? p = some u := h.2 p u hne hp
theorem Kc.cel {D : Nat} {a w w' : World} (h : Kc a w) (hD : a.heap.size ≤ D) (k : Cel D w w') : Kc a w' :=
  fun p u hp => k.2 p u (fun e => by have := World.block_lt_of_cell? a p hp; omega) (h p u hp)

/-- The slice address A holds the cells xs. -/
def Rd (w : World) (A : Option Addr) (xs : List Value) : Prop :=
  xs = [] ∨ ∃ b off, A = some ⟨b, off, none⟩ ∧ ∀ j u, xs[j]? = some u → w.cell? ⟨b, off + j, none⟩ = some u
theorem Rd.nil (w : World) (A : Option Addr) : Rd w A [] := .inl rfl
theorem Rd.kc {w w' : World} {A : Option Addr} {xs : List Value} (h : Rd w A xs) (hx : Kc w w') : Rd w' A xs := by
  rcases h with h | ⟨b, off, hA, hc⟩
  · exact .inl h
  · exact .inr ⟨b, off, hA, fun j u hu => hx _ _ (hc j u hu)⟩
theorem Rd.ext {w w' : World} {A : Option Addr} {xs : List Value} (h : Rd w A xs) (hx : Ext w w') : Rd w' A xs := h.kc hx.kc
theorem Rd.at_ {w : World} {A : Option Addr} {xs : List Value} (h : Rd w A xs) (hne : xs ≠ []) :
    ∃ b off, A = some ⟨b, off, none⟩ ∧ ∀ j u, xs[j]? = some u → w.cell? ⟨b, off + j, none⟩ = some u := by
  rcases h with h | h
  · exact absurd h hne
  · exact h
theorem Rd.of_own {w : World} {base e size n c : Nat} {A : Option Addr} {xs : List Value} (h : w.ownsRow base e size (.slice A n c) n xs) : Rd w A xs := by
  rcases h.2 with ⟨hv, hn⟩ | ⟨g, cap, cur, hv, hg, hh, hrest⟩
  · subst hn
    exact .inl (List.eq_nil_of_length_eq_zero (by simpa using h.1))
  · injection hv with hA _ _
    subst hA
    refine .inr ⟨g, 0, rfl, fun j u hu => ?_⟩
    have := h.cells (g := g) rfl j u hu
    unfold Addr.add at this
    split at this
    · rename_i h0; subst h0; simpa using this
    · simpa using this
theorem Rd.pre_ {w : World} {A : Option Addr} {xs ys : List Value} (h : Rd w A (xs ++ ys)) : Rd w A xs := by
  rcases h with h | ⟨b, off, hA, hc⟩
  · exact .inl (List.append_eq_nil_iff.1 h).1
  · refine .inr ⟨b, off, hA, fun j u hu => hc j u ?_⟩
    rw [List.getElem?_append_left (by rcases List.getElem?_eq_some_iff.1 hu with ⟨h1, _⟩; exact h1)]
    exact hu

/-- Numbers in a slice. -/
def Ints (w : World) (A : Option Addr) (l : List Int) : Prop := Rd w A (l.map (.int .i64))
theorem Ints.ext {w w' : World} {A : Option Addr} {l : List Int} (h : Ints w A l) (hx : Ext w w') : Ints w' A l := Rd.ext h hx
theorem Ints.kc {w w' : World} {A : Option Addr} {l : List Int} (h : Ints w A l) (hx : Kc w w') : Ints w' A l := Rd.kc h hx
theorem Ints.nil (w : World) (A : Option Addr) : Ints w A [] := Rd.nil w A
theorem Ints.at_ {w : World} {A : Option Addr} {l : List Int} {k : Nat} {x : Int} (h : Ints w A l) (hk : l[k]? = some x) :
    ∃ b off, A = some ⟨b, off, none⟩ ∧ w.cell? ⟨b, off + k, none⟩ = some (.int .i64 x) := by
  obtain ⟨b, off, hA, hc⟩ := Rd.at_ h (by intro e; have := congrArg List.length e; simp at this; subst this; simp at hk)
  exact ⟨b, off, hA, hc k _ (by simp [hk])⟩

/-- A function value that answers p of what stands as v (v reads as x: R). It may lay new blocks. -/
def FnP {α : Type} (P : Program) (fv : Value) (w : World) (R : World → Value → α → Prop) (S : α → Prop) (p : α → Bool) : Prop :=
  ∃ (g : Nat) (fst lb : Array Value), fv = .func (.func g) fst lb ∧ (∀ args W, (callFunc g args).run P W = .ok (.enter g args) W) ∧
    ∀ (x : α) (v : Value) (W : World), S x → Kc w W → R W v x → Calls P g (fst.push v ++ lb) W fun e W' => e = .returned (.bool (p x)) ∧ Ext W W'
theorem FnP.ext {α : Type} {P : Program} {fv : Value} {w w' : World} {R : World → Value → α → Prop} {S : α → Prop} {p : α → Bool} (h : FnP P fv w R S p) (hx : Ext w w') : FnP P fv w' R S p := by
  obtain ⟨g, fst, lb, rfl, he, hc⟩ := h
  exact ⟨g, fst, lb, rfl, he, fun x v W hs hW hR => hc x v W hs (hx.kc.trans hW) hR⟩

theorem FnP.kc {α : Type} {P : Program} {fv : Value} {w w' : World} {R : World → Value → α → Prop} {S : α → Prop} {p : α → Bool} (h : FnP P fv w R S p) (hx : Kc w w') : FnP P fv w' R S p := by
  obtain ⟨g, fst, lb, rfl, he, hc⟩ := h
  exact ⟨g, fst, lb, rfl, he, fun x v W hs hW hR => hc x v W hs (hx.trans hW) hR⟩

/-- The first place at which p holds, counted from i; -1 if there is none. -/
def idxF {α : Type} (p : α → Bool) : List α → Nat → Int
  | [], _ => -1
  | x :: l, i => if p x then (i : Int) else idxF p l (i + 1)
theorem idxF_nonneg {α : Type} (p : α → Bool) (l : List α) : ∀ i, decide (0 ≤ idxF p l i) = l.any p := by
  induction l with
  | nil => intro i; simp [idxF]
  | cons x l ih =>
    intro i
    unfold idxF
    cases h : p x
    · simp [h, ih (i + 1)]
    · simp [h]
theorem idxF_drop {α : Type} (p : α → Bool) (l : List α) (k : Nat) (x : α) (h : l[k]? = some x) : idxF p (l.drop k) k = if p x then (k : Int) else idxF p (l.drop (k + 1)) (k + 1) := by
  have hk : k < l.length := (List.getElem?_eq_some_iff.1 h).1
  rw [List.drop_eq_getElem_cons hk]
  have : l[k] = x := (List.getElem?_eq_some_iff.1 h).2
  rw [this]
  rfl
theorem idxF_end {α : Type} (p : α → Bool) (l : List α) (k : Nat) (h : l.length ≤ k) (i : Nat) : idxF p (l.drop k) i = -1 := by
  rw [List.drop_eq_nil_of_le h]; rfl
theorem all_any {α : Type} (p : α → Bool) (l : List α) : l.all p = !(l.any fun x => !p x) := by
  induction l with
  | nil => rfl
  | cons x l ih => simp only [List.all_cons, List.any_cons, ih]; cases p x <;> simp
theorem mem_of_get {α : Type} {l : List α} {k : Nat} {x : α} (h : l[k]? = some x) : x ∈ l := List.mem_of_getElem? h
/-- No condition on the elements. -/
def anyx {α : Type} (_ : α) : Prop := True
theorem anyx_all {α : Type} (l : List α) : ∀ x, x ∈ l → anyx x := fun _ _ => trivial
theorem ints_len (l : List Int) : (l.map (Value.int .i64)).length = l.length * 1 := by simp
theorem ints_one (l : List Int) : ∀ u ∈ l.map (Value.int .i64), u.oneCell' = true := by intro u hu; simp at hu; obtain ⟨x, _, rfl⟩ := hu; rfl
theorem get_of_lt {α : Type} (l : List α) (k : Nat) (h : k < l.length) : ∃ x, l[k]? = some x := ⟨l[k], List.getElem?_eq_getElem h⟩
theorem ret_of {v v' : Value} (h : v = v') : Ending.returned v = .returned v' := by rw [h]
theorem bool_of {a b : Bool} (h : a = b) : Value.bool a = .bool b := by rw [h]
theorem int_of {k : IntKind} {a b : Int} (h : a = b) : Value.int k a = .int k b := by rw [h]

/-! ### append onto a row of the call's own -/
/-- What append asks of the slice's type t over the element type e. -/
structure ElemOK (P : Program) (t e : TypeId) (size bytes : Nat) : Prop where
  under : P.underlying t = some (.slice e)
  info : ∃ i z, P.info? e = some i ∧ i.zero = some z ∧ i.size = size ∧ i.bytes = bytes ∧ z.cells.size = size
  pos : 0 < size
  bpos : 0 < bytes

theorem own_nil (w : World) (base : Nat) (e : TypeId) (size : Nat) : w.ownsRow base e size (.slice none 0 0) 0 [] := World.ownsRow_nil w base e size
theorem own_slice {w : World} {base e size n : Nat} {v : Value} {xs : List Value} (h : w.ownsRow base e size v n xs) : ∃ A c, v = .slice A n c := by
  rcases h.2 with ⟨rfl, rfl⟩ | ⟨g, cap, cur, rfl, _⟩
  · exact ⟨_, _, rfl⟩
  · exact ⟨_, _, rfl⟩
theorem own_len {w : World} {base e size n : Nat} {v : Value} {xs : List Value} (h : w.ownsRow base e size v n xs) : xs.length = n * size := h.1
theorem own_below {w w' : World} {base e size n : Nat} {v : Value} {xs : List Value} (h : w.ownsRow base e size v n xs) (hb : Ext w w') : w'.ownsRow base e size v n xs := by
  refine ⟨h.1, ?_⟩
  rcases h.2 with h | ⟨g, cap, cur, rfl, h1, h2, h3⟩
  · exact .inl h
  · exact .inr ⟨g, cap, cur, rfl, h1, (Below.block hb g (Array.getElem?_eq_some_iff.1 h2).1).trans h2, h3⟩
theorem own_base {w : World} {base base' e size n : Nat} {v : Value} {xs : List Value} (h : w.ownsRow base e size v n xs) (hb : base' ≤ base) : w.ownsRow base' e size v n xs := by
  refine ⟨h.1, ?_⟩
  rcases h.2 with h | ⟨g, cap, cur, rfl, h1, h2, h3⟩
  · exact .inl h
  · exact .inr ⟨g, cap, cur, rfl, by omega, h2, h3⟩

theorem run_append_rd {P : Program} (w : World) (t ty e : TypeId) (size bytes : Nat) (E : ElemOK P t e size bytes) (base : Nat)
    (v : Value) (n : Nat) (xs : List Value) (hown : w.ownsRow base e size v n xs) (A : Option Addr) (m c : Nat) (news : List Value) (hl : news.length = m * size) (hr : Rd w A news)
    (h1 : ∀ u ∈ news, u.oneCell' = true) (hbytes : (n + m) * bytes ≤ 140737488355328) (hbase : base ≤ w.heap.size) :
    ∃ v' w', (Builtin.append_ #[t, t] ty #[v, .slice A m c]).run P w = .ok v' w' ∧ w'.ownsRow base e size v' (n + m) (xs ++ news) ∧ w.grownBy w' v.ownBlock ∧
      (v' = .slice none 0 0 ↔ v = .slice none 0 0 ∧ m = 0) ∧ (v'.ownBlock = v.ownBlock ∨ v'.ownBlock = some w.heap.size) := by
  obtain ⟨ht, ⟨i, z, hi, hz, hsize, hby, hzs⟩, hsz, hbp⟩ := E
  have h63 : n + m ≤ maxLen := by
    have := Nat.le_mul_of_pos_right (n + m) hbp
    simp only [maxLen]; omega
  rcases A with _ | ad
  · have hn : news = [] := by
      rcases hr with h | ⟨b, off, h, _⟩
      · exact h
      · cases h
    subst hn
    have hm : m = 0 := by
      rcases Nat.eq_zero_or_pos m with h0 | h0
      · exact h0
      · have := Nat.mul_pos h0 hsz; simp at hl; omega
    subst hm
    refine ⟨v, w, ?_, by simpa using hown, World.grownBy.refl w _, by simp, .inl rfl⟩
    rcases hown.2 with ⟨rfl, rfl⟩ | ⟨g, cap, cur, rfl, _, _, hnc, _⟩
    · simp [Builtin.append_, run_underlying ht, sizeOf, typeInfo, hi, Builtin.lenOf, Builtin.firstCells]
    · simp [Builtin.append_, run_underlying ht, sizeOf, typeInfo, hi, Builtin.lenOf, Builtin.firstCells, hnc, storeCells]
  · have hcells : ∀ j u, news[j]? = some u → w.cell? (ad.add j) = some u := by
      intro j u hu
      rcases hr with h | ⟨b, off, h, hc⟩
      · subst h; simp at hu
      · cases h
        rw [Addr.add_lit]
        exact hc j u hu
    exact run_append_own_at (P := P) w base t ty e i z size bytes ht hi hz hsize hby hzs hsz v n xs hown ad m c news hl hcells h1 h63 hbytes hbase

theorem wp_append_rd {P : Program} (w : World) {o : Oper} {a : Act} {K : Act → World → Prop} {Q : Exit → Act → World → Prop} (s x : Operand) (t : TypeId)
    (ho : o.op = .call { callee := .builtin .append, args := #[s, x], argTypes := #[t, t] }) {e : TypeId} {size bytes : Nat} (E : ElemOK P t e size bytes) (base : Nat)
    (v : Value) (n : Nat) (xs : List Value) (hs : a.eval s = v) (hown : w.ownsRow base e size v n xs) (A : Option Addr) (m c : Nat) (news : List Value) (hx : a.eval x = .slice A m c)
    (hl : news.length = m * size) (hr : Rd w A news) (h1 : ∀ u ∈ news, u.oneCell' = true) (hbytes : (n + m) * bytes ≤ 140737488355328) (hbase : base ≤ w.heap.size)
    (h : ∀ A' c' w', w'.ownsRow base e size (.slice A' (n + m) c') (n + m) (xs ++ news) → Below base w w' → w.grownBy w' v.ownBlock → (A' = none ↔ v = .slice none 0 0 ∧ m = 0) → K (a.put o.dst (.slice A' (n + m) c')) w') : o.wp P a w K Q := by
  obtain ⟨v', w', hrun, h2, h3, h4, h5⟩ := run_append_rd (P := P) w t o.type e size bytes E base v n xs hown A m c news hl hr h1 hbytes hbase
  obtain ⟨A', c', rfl⟩ := own_slice h2
  unfold Oper.wp execOp
  simp only [ho, resolve, invoke, builtin, Sem.run_bind, Sem.run_pure, Result.andThen_ok, List.map_toArray, List.map_cons, List.map_nil, hs, hx, hrun]
  have hB : Below base w w' := (Below.refl base w).grown h3 hbase (fun k hk => (hown.lt k hk).1)
  refine h A' c' w' h2 hB h3 ?_
  rw [← h4]
  constructor
  · rintro rfl
    rcases h2.2 with ⟨h, _⟩ | ⟨g, cap, cur, h, _⟩
    · exact h
    · cases h
  · intro h; injection h

theorem wpList_append_rd {P : Program} (w : World) {ops : Array Oper} {rest : List Oper} {o : Oper} {a : Act} {Q : Exit → Act → World → Prop} (hgd : o.guard = none) (s x : Operand) (t : TypeId)
    (ho : o.op = .call { callee := .builtin .append, args := #[s, x], argTypes := #[t, t] }) {e : TypeId} {size bytes : Nat} (E : ElemOK P t e size bytes) (base : Nat)
    (v : Value) (n : Nat) (xs : List Value) (hs : a.eval s = v) (hown : w.ownsRow base e size v n xs) (A : Option Addr) (m c : Nat) (news : List Value) (hx : a.eval x = .slice A m c)
    (hl : news.length = m * size) (hr : Rd w A news) (h1 : ∀ u ∈ news, u.oneCell' = true) (hbytes : (n + m) * bytes ≤ 140737488355328) (hbase : base ≤ w.heap.size)
    (h : ∀ A' c' w', w'.ownsRow base e size (.slice A' (n + m) c') (n + m) (xs ++ news) → Below base w w' → w.grownBy w' v.ownBlock → (A' = none ↔ v = .slice none 0 0 ∧ m = 0) → wpList P ops Q rest (a.put o.dst (.slice A' (n + m) c')) w') : wpList P ops Q (o :: rest) a w :=
  wpList_plain hgd fun _ hK => wp_append_rd w s x t ho E base v n xs hs hown A m c news hx hl hr h1 hbytes hbase fun A' c' w' h2 h3 h4 h5 => hK _ _ (h A' c' w' h2 h3 h4 h5)
end Go.Proofs.YtjnobdcbbboeeaaGreat

namespace Go.Proofs.YtjnobdcbbboeeaaGreat
open Go Go.RowKit
set_option linter.unusedVariables false
set_option linter.unusedSimpArgs false

/-- A number as an argument of a function value. -/
def IntR (_ : World) (v : Value) (x : Int) : Prop := v = .int .i64 x
def inB (n lo hi : Int) : Bool := decide (lo ≤ n) && decide (n ≤ hi)
theorem inB_iff {n lo hi : Int} : inB n lo hi = true ↔ lo ≤ n ∧ n ≤ hi := by simp [inB]
theorem inB_not {n lo hi : Int} : inB n lo hi = false ↔ ¬ (lo ≤ n ∧ n ≤ hi) := by rw [← inB_iff]; cases inB n lo hi <;> simp

abbrev Mat := Nat → Nat → Int
def gl (g : Mat) : List Int := (List.range 64).map fun i => g (i / 8) (i % 8)
def upd (g : Mat) (a b : Nat) (x : Int) : Mat := fun p q => if p = a ∧ q = b then x else g p q
theorem gl_len (g : Mat) : (gl g).length = 64 := by simp [gl]
theorem gl_get (g : Mat) (a b : Nat) (ha : a < 8) (hb : b < 8) : (gl g)[a * 8 + b]? = some (g a b) := by
  have h : a * 8 + b < 64 := by omega
  simp only [gl, List.getElem?_map, List.getElem?_range h, Option.map_some]
  congr 2 <;> omega
theorem gl_congr {g g' : Mat} (h : ∀ a b, a < 8 → b < 8 → g a b = g' a b) : gl g = gl g' := by
  unfold gl
  apply List.map_congr_left
  intro i hi
  simp at hi
  exact h _ _ (by omega) (by omega)
theorem gl_eq {g g' : Mat} (h : gl g = gl g') (a b : Nat) (ha : a < 8) (hb : b < 8) : g a b = g' a b := by
  have h1 := gl_get g a b ha hb
  rw [h, gl_get g' a b ha hb] at h1
  exact (Option.some.inj h1).symm
theorem gl_upd (g : Mat) (a b : Nat) (x : Int) (ha : a < 8) (hb : b < 8) : gl (upd g a b x) = (gl g).set (a * 8 + b) x := by
  apply List.ext_getElem?
  intro i
  rw [List.getElem?_set]
  rcases Nat.lt_or_ge i 64 with hi | hi
  · have e : i = i / 8 * 8 + i % 8 := by omega
    have h1 := gl_get (upd g a b x) (i / 8) (i % 8) (by omega) (by omega)
    have h2 := gl_get g (i / 8) (i % 8) (by omega) (by omega)
    rw [← e] at h1 h2
    rw [h1, h2, gl_len]
    unfold upd
    by_cases hab : a * 8 + b = i
    · rw [if_pos (by omega), if_pos hab, if_pos (by omega)]
    · rw [if_neg (by omega), if_neg hab]
  · rw [List.getElem?_eq_none (by rw [gl_len]; omega), if_neg (by omega), List.getElem?_eq_none (by rw [gl_len]; omega)]

def Eq8 (g g' : Mat) : Prop := ∀ a b, a < 8 → b < 8 → g a b = g' a b
theorem Eq8.refl (g : Mat) : Eq8 g g := fun _ _ _ _ => rfl
theorem Eq8.symm {g g' : Mat} (h : Eq8 g g') : Eq8 g' g := fun a b ha hb => (h a b ha hb).symm
theorem Eq8.trans {a b c : Mat} (h : Eq8 a b) (k : Eq8 b c) : Eq8 a c := fun x y hx hy => (h x y hx hy).trans (k x y hx hy)
def leastL (n : Int) (l : List Int) : Int := l.foldl min n
end Go.Proofs.YtjnobdcbbboeeaaGreat

namespace Go.Proofs.YtjnobdcbbboeeaaGreat
open Go Go.RowKit
set_option linter.unusedVariables false
set_option linter.unusedSimpArgs false

/-! ### Rows of elements that are told by their cells alone -/
/-- How an element lies: k cells. -/
structure Lay (α : Type) where
  cells : α → List Value
  k : Nat
  len : ∀ x, (cells x).length = k
  one : ∀ x, ∀ u ∈ cells x, u.oneCell' = true
variable {α : Type}
def Lay.rows (F : Lay α) (l : List α) : List Value := l.flatMap F.cells
theorem Lay.rows_len (F : Lay α) (l : List α) : (F.rows l).length = l.length * F.k := by
  induction l with
  | nil => simp [Lay.rows]
  | cons x l ih => simp only [Lay.rows, List.flatMap_cons, List.length_append, F.len, List.length_cons, Nat.add_mul] at *; omega
theorem Lay.rows_app (F : Lay α) (l m : List α) : F.rows (l ++ m) = F.rows l ++ F.rows m := by simp [Lay.rows]
theorem Lay.rows_single (F : Lay α) (x : α) : F.rows [x] = F.cells x := by simp [Lay.rows]
theorem Lay.rows_nil (F : Lay α) : F.rows [] = [] := rfl
theorem Lay.rows_one (F : Lay α) (l : List α) : ∀ u ∈ F.rows l, u.oneCell' = true := by
  intro u h
  simp only [Lay.rows, List.mem_flatMap] at h
  obtain ⟨x, _, hx⟩ := h
  exact F.one x u hx
theorem Lay.rows_get (F : Lay α) (l : List α) : ∀ (i : Nat) (x : α), l[i]? = some x → ∀ (j : Nat) (u : Value), (F.cells x)[j]? = some u → (F.rows l)[i * F.k + j]? = some u := by
  induction l with
  | nil => intro i x h; simp at h
  | cons b l ih =>
    intro i x h j u hu
    have hj : j < F.k := by rw [← F.len x]; exact (List.getElem?_eq_some_iff.1 hu).1
    cases i with
    | zero =>
      simp at h; subst h
      simp only [Lay.rows, List.flatMap_cons, Nat.zero_mul, Nat.zero_add]
      rw [List.getElem?_append_left (by rw [F.len]; exact hj)]
      exact hu
    | succ i =>
      have := ih i x (by simpa using h) j u hu
      simp only [Lay.rows, List.flatMap_cons] at *
      rw [List.getElem?_append_right (by rw [F.len, Nat.add_mul]; omega), F.len]
      rw [← this]
      congr 1
      rw [Nat.add_mul]; omega
/-- A slice's address holds a row of such elements. -/
def Rows (F : Lay α) (w : World) (A : Option Addr) (l : List α) : Prop := Rd w A (F.rows l)
theorem Rows.ext {F : Lay α} {w w' : World} {A : Option Addr} {l : List α} (h : Rows F w A l) (hx : Ext w w') : Rows F w' A l := Rd.ext h hx
theorem Rows.kc {F : Lay α} {w w' : World} {A : Option Addr} {l : List α} (h : Rows F w A l) (hx : Kc w w') : Rows F w' A l := Rd.kc h hx
theorem Rows.nil (F : Lay α) (w : World) (A : Option Addr) : Rows F w A [] := Rd.nil w A
theorem Rows.at_ {F : Lay α} {w : World} {A : Option Addr} {l : List α} {i : Nat} {x : α} (h : Rows F w A l) (hk : 0 < F.k) (hi : l[i]? = some x) :
    ∃ b off, A = some ⟨b, off, none⟩ ∧ ∀ j u, (F.cells x)[j]? = some u → w.cell? ⟨b, off + i * F.k + j, none⟩ = some u := by
  obtain ⟨b, off, hA, hc⟩ := Rd.at_ h (by
    intro e
    have h1 := F.rows_len l
    rw [e] at h1
    have h2 := (List.getElem?_eq_some_iff.1 hi).1
    have h3 : 0 < l.length * F.k := Nat.mul_pos (by omega) hk
    simp at h1; omega)
  exact ⟨b, off, hA, fun j u hu => by rw [Nat.add_assoc]; exact hc _ _ (F.rows_get l i x hi j u hu)⟩

def layPr : Lay (Int × Int) := ⟨fun p => [.int .i64 p.1, .int .i64 p.2], 2, fun _ => rfl, fun x u h => by simp at h; rcases h with rfl | rfl <;> rfl⟩
def layIn : Lay Int := ⟨fun x => [.int .i64 x], 1, fun _ => rfl, fun x u h => by simp at h; subst h; rfl⟩
abbrev Prs (w : World) (A : Option Addr) (l : List (Int × Int)) : Prop := Rows layPr w A l
def pval (p : Int × Int) : Value := .agg #[.int .i64 p.1, .int .i64 p.2]
theorem rows_in (l : List Int) : layIn.rows l = l.map (.int .i64) := by
  induction l with
  | nil => rfl
  | cons x l ih => simp only [Lay.rows, List.flatMap_cons, List.map_cons] at *; rw [ih]; rfl
theorem Prs.at_ {w : World} {A : Option Addr} {l : List (Int × Int)} {i : Nat} {x : Int × Int} (h : Prs w A l) (hi : l[i]? = some x) :
    ∃ b off, A = some ⟨b, off, none⟩ ∧ w.cell? ⟨b, off + i * 2, none⟩ = some (.int .i64 x.1) ∧ w.cell? ⟨b, off + i * 2 + 1, none⟩ = some (.int .i64 x.2) := by
  obtain ⟨b, off, hA, hc⟩ := Rows.at_ h (by decide) hi
  exact ⟨b, off, hA, hc 0 _ rfl, hc 1 _ rfl⟩

end Go.Proofs.YtjnobdcbbboeeaaGreat

namespace Go.Proofs.YtjnobdcbbboeeaaGreat
open Go Go.RowKit
set_option linter.unusedVariables false
set_option linter.unusedSimpArgs false

def updI (f : Nat → Int) (i : Nat) (v : Int) : Nat → Int := fun k => if k = i then v else f k
def updB (f : Nat → Bool) (i : Nat) (v : Bool) : Nat → Bool := fun k => if k = i then v else f k
/-- One round over what lies below a. -/
def plcL (rec : Nat → (Nat → Int) → (Nat → Bool) → Bool × (Nat → Int) × (Nat → Bool)) (a : Nat) : List Nat → (Nat → Int) → (Nat → Bool) → Bool × (Nat → Int) × (Nat → Bool)
  | [], ov, mt => (false, ov, mt)
  | b :: l, ov, mt =>
    if mt b then plcL rec a l ov mt else
    if ov b < 0 then (true, updI ov b a, updB mt b true) else
    if (rec (ov b).toNat ov (updB mt b true)).1 then (true, updI (rec (ov b).toNat ov (updB mt b true)).2.1 b a, (rec (ov b).toNat ov (updB mt b true)).2.2) else
    plcL rec a l (rec (ov b).toNat ov (updB mt b true)).2.1 (rec (ov b).toNat ov (updB mt b true)).2.2
/-- place, with so much fuel. -/
def plc (L : Nat → List Nat) : Nat → Nat → (Nat → Int) → (Nat → Bool) → Bool × (Nat → Int) × (Nat → Bool)
  | 0, _, ov, mt => (false, ov, mt)
  | k + 1, a, ov, mt => plcL (plc L k) a (L a) ov mt
/-- How many are not met yet. -/
def um (n : Nat) (mt : Nat → Bool) : Nat := ((List.range n).filter fun b => !mt b).length
theorem filter_len_le {α : Type} {p q : α → Bool} : ∀ (l : List α), (∀ x ∈ l, p x = true → q x = true) → (l.filter p).length ≤ (l.filter q).length
  | [], _ => by simp
  | x :: l, h => by
    have ih := filter_len_le l (fun y hy => h y (List.mem_cons_of_mem _ hy))
    have hx := h x List.mem_cons_self
    cases hp : p x <;> cases hq : q x <;> simp [List.filter_cons, hp, hq] <;> first | omega | (rw [hp, hq] at hx; simp at hx)
theorem filter_len_lt {α : Type} {p q : α → Bool} : ∀ (l : List α), (∀ x ∈ l, p x = true → q x = true) → ∀ y ∈ l, p y = false → q y = true → (l.filter p).length < (l.filter q).length
  | [], _, y, hy, _, _ => by simp at hy
  | x :: l, h, y, hy, h1, h2 => by
    have hle := filter_len_le l (fun y hy => h y (List.mem_cons_of_mem _ hy))
    have hx := h x List.mem_cons_self
    rcases List.mem_cons.1 hy with rfl | hy
    · simp [List.filter_cons, h1, h2]; omega
    · have ih := filter_len_lt l (fun y hy => h y (List.mem_cons_of_mem _ hy)) y hy h1 h2
      cases hp : p x <;> cases hq : q x <;> simp [List.filter_cons, hp, hq] <;> first | omega | (rw [hp, hq] at hx; simp at hx)
theorem um_mono {n : Nat} {mt mt' : Nat → Bool} (h : ∀ b, mt b = true → mt' b = true) : um n mt' ≤ um n mt :=
  filter_len_le _ fun x _ hx => by
    cases e : mt x
    · rfl
    · rw [h x e] at hx; simp at hx
theorem updB_self (f : Nat → Bool) (i : Nat) (v : Bool) : updB f i v i = v := by simp [updB]
theorem updI_self (f : Nat → Int) (i : Nat) (v : Int) : updI f i v i = v := by simp [updI]
theorem updI_ne {f : Nat → Int} {i k : Nat} {v : Int} (h : k ≠ i) : updI f i v k = f k := by simp [updI, h]
theorem updB_ne {f : Nat → Bool} {i k : Nat} {v : Bool} (h : k ≠ i) : updB f i v k = f k := by simp [updB, h]
theorem updB_mono {mt : Nat → Bool} {b k : Nat} (h : mt k = true) : updB mt b true k = true := by
  by_cases e : k = b
  · rw [e, updB_self]
  · rw [updB_ne e]; exact h
theorem um_upd {n b : Nat} {mt : Nat → Bool} (hb : b < n) (h : mt b = false) : um n (updB mt b true) < um n mt := by
  refine filter_len_lt _ (fun x _ hx => ?_) b (List.mem_range.2 hb) (by rw [updB_self]; rfl) (by rw [h]; rfl)
  cases e : mt x
  · rfl
  · rw [updB_mono e] at hx; simp at hx
/-! ### A way that leads nowhere -/
structure Fell (n : Nat) (L : Nat → List Nat) (l : List Nat) (ov ov' : Nat → Int) (mt mt' : Nat → Bool) : Prop where
  same : ov' = ov
  mono : ∀ b, mt b = true → mt' b = true
  all : ∀ b ∈ l, mt' b = true
  dead : ∀ b, mt' b = true → mt b = false → b < n ∧ 0 ≤ ov b ∧ ∀ c ∈ L (ov b).toNat, mt' c = true
section
variable {n : Nat} {L : Nat → List Nat}
theorem plcL_fell {rec : Nat → (Nat → Int) → (Nat → Bool) → Bool × (Nat → Int) × (Nat → Bool)} {k : Nat} (hr : ∀ a ov mt, um n mt < k → (rec a ov mt).1 = false → Fell n L (L a) ov (rec a ov mt).2.1 mt (rec a ov mt).2.2) (a : Nat) :
    ∀ (l : List Nat) (ov : Nat → Int) (mt : Nat → Bool), (∀ b ∈ l, b < n) → um n mt ≤ k → (plcL rec a l ov mt).1 = false → Fell n L l ov (plcL rec a l ov mt).2.1 mt (plcL rec a l ov mt).2.2
  | [], ov, mt, _, _, _ => ⟨rfl, fun b h => h, fun b h => by simp at h, fun b h1 h2 => by have h1' : mt b = true := h1; rw [h2] at h1'; cases h1'⟩
  | b :: l, ov, mt, hl, hk, h => by
    unfold plcL at h ⊢
    have hln : ∀ c ∈ l, c < n := fun c hc => hl c (List.mem_cons_of_mem _ hc)
    by_cases hm : mt b = true
    · rw [if_pos hm] at h ⊢
      have ih := plcL_fell hr a l ov mt hln hk h
      refine ⟨ih.same, ih.mono, fun c hc => ?_, ih.dead⟩
      rcases List.mem_cons.1 hc with rfl | hc
      · exact ih.mono _ hm
      · exact ih.all c hc
    · rw [if_neg hm] at h ⊢
      have hm : mt b = false := by simpa using hm
      by_cases ho : ov b < 0
      · rw [if_pos ho] at h; cases h
      · rw [if_neg ho] at h ⊢
        have hb := hl b List.mem_cons_self
        have hu := um_upd hb hm
        cases hc : (rec (ov b).toNat ov (updB mt b true)).1
        case true => rw [hc] at h; simp at h
        case false =>
          rw [hc] at h
          simp only [Bool.false_eq_true, if_false] at h ⊢
          have f1 := hr (ov b).toNat ov (updB mt b true) (by omega) hc
          have hmono : ∀ c, mt c = true → (rec (ov b).toNat ov (updB mt b true)).2.2 c = true := fun c h => f1.mono c (updB_mono h)
          have ih := plcL_fell hr a l _ _ hln (by have := um_mono (n := n) hmono; omega) h
          have hs := ih.same.trans f1.same
          refine ⟨hs, fun c hc => ih.mono c (hmono c hc), fun c hc => ?_, fun c h1 h2 => ?_⟩
          · rcases List.mem_cons.1 hc with rfl | hc
            · exact ih.mono _ (f1.mono _ (updB_self _ _ _))
            · exact ih.all c hc
          · by_cases e1 : (rec (ov b).toNat ov (updB mt b true)).2.2 c = true
            · by_cases e2 : c = b
              · subst e2
                exact ⟨hb, by omega, fun d hd => ih.mono d (f1.all d hd)⟩
              · obtain ⟨q1, q2, q3⟩ := f1.dead c e1 (by rw [updB_ne e2]; exact h2)
                exact ⟨q1, q2, fun d hd => ih.mono d (q3 d hd)⟩
            · have q := ih.dead c h1 (by simpa using e1)
              have e0 : ∀ d, (rec (ov b).toNat ov (updB mt b true)).2.1 d = ov d := fun d => congrFun f1.same d
              rw [e0 c] at q
              exact q
theorem plc_fell (hL : ∀ a, ∀ b ∈ L a, b < n) : ∀ (k a : Nat) (ov : Nat → Int) (mt : Nat → Bool), um n mt < k → (plc L k a ov mt).1 = false → Fell n L (L a) ov (plc L k a ov mt).2.1 mt (plc L k a ov mt).2.2
  | 0, _, _, _, h, _ => by omega
  | k + 1, a, ov, mt, h, e => plcL_fell (plc_fell hL k) a (L a) ov mt (hL a) (by omega) e
/-! ### What is dead stays dead -/
def DeadW (L : Nat → List Nat) (W : Nat → Bool) (ov : Nat → Int) : Prop := ∀ b, W b = true → 0 ≤ ov b ∧ ∀ c ∈ L (ov b).toNat, W c = true
theorem plcL_dead {rec : Nat → (Nat → Int) → (Nat → Bool) → Bool × (Nat → Int) × (Nat → Bool)} {W : Nat → Bool} {ov : Nat → Int} (hW : DeadW L W ov) (hr : ∀ a mt, (∀ b ∈ L a, W b = true) → (rec a ov mt).1 = false ∧ (rec a ov mt).2.1 = ov) (a : Nat) :
    ∀ (l : List Nat) (mt : Nat → Bool), (∀ b ∈ l, W b = true) → (plcL rec a l ov mt).1 = false ∧ (plcL rec a l ov mt).2.1 = ov
  | [], mt, _ => ⟨rfl, rfl⟩
  | b :: l, mt, hl => by
    unfold plcL
    have hln : ∀ c ∈ l, W c = true := fun c hc => hl c (List.mem_cons_of_mem _ hc)
    by_cases hm : mt b = true
    · rw [if_pos hm]; exact plcL_dead hW hr a l mt hln
    · rw [if_neg hm]
      obtain ⟨h0, h1⟩ := hW b (hl b List.mem_cons_self)
      rw [if_neg (by omega)]
      obtain ⟨r1, r2⟩ := hr (ov b).toNat (updB mt b true) h1
      rw [r1, r2]
      simp only [Bool.false_eq_true, if_false]
      exact plcL_dead hW hr a l _ hln
theorem plc_dead {W : Nat → Bool} {ov : Nat → Int} (hW : DeadW L W ov) : ∀ (k a : Nat) (mt : Nat → Bool), (∀ b ∈ L a, W b = true) → (plc L k a ov mt).1 = false ∧ (plc L k a ov mt).2.1 = ov
  | 0, _, _, _ => ⟨rfl, rfl⟩
  | k + 1, a, mt, h => plcL_dead hW (fun a mt h => plc_dead hW k a mt h) a (L a) mt h
/-! ### A way that is found -/
structure Found (L : Nat → List Nat) (U : Nat → Prop) (W : Nat → Bool) (a : Nat) (ov ov' : Nat → Int) : Prop where
  out : ∀ b, ¬ U b → ov' b = ov b
  dead : ∀ b, W b = true → ov' b = ov b
  inj : ∀ b c, U b → U c → 0 ≤ ov' b → ov' b = ov' c → b = c
  rng : ∀ b, U b → 0 ≤ ov' b → ov' b = (a : Int) ∨ ∃ c, U c ∧ ov c = ov' b
  keep : ∀ b, U b → 0 ≤ ov b → ∃ c, U c ∧ ov' c = ov b
  has : ∃ c, U c ∧ ov' c = (a : Int)
  dom : ∃ c, U c ∧ ov c < 0 ∧ 0 ≤ ov' c ∧ ∀ b, b ≠ c → (0 ≤ ov' b ↔ 0 ≤ ov b)
  edge : ∀ b, ov' b = ov b ∨ (0 ≤ ov' b ∧ b ∈ L (ov' b).toNat)
  lo : (∀ b, -1 ≤ ov b) → ∀ b, -1 ≤ ov' b
structure Fit (U : Nat → Prop) (a : Nat) (ov : Nat → Int) : Prop where
  inj : ∀ b c, U b → U c → 0 ≤ ov b → ov b = ov c → b = c
  new : ∀ b, U b → ov b ≠ (a : Int)
theorem Fit.less {U U' : Nat → Prop} {a : Nat} {ov : Nat → Int} (h : Fit U a ov) (hu : ∀ b, U' b → U b) : Fit U' a ov := ⟨fun b c hb hc => h.inj b c (hu b hb) (hu c hc), fun b hb => h.new b (hu b hb)⟩
theorem Found.more {U U' : Nat → Prop} {W : Nat → Bool} {a : Nat} {ov ov' : Nat → Int} (h : Found L U' W a ov ov') (hf : Fit U a ov) (hu : ∀ b, U' b → U b) (hd : ∀ b, U' b ∨ ¬ U' b) : Found L U W a ov ov' where
  out := fun b hb => h.out b fun x => hb (hu b x)
  dead := h.dead
  inj := fun b c hb hc h0 e => by
    rcases hd b with ub | ub <;> rcases hd c with uc | uc
    · exact h.inj b c ub uc h0 e
    · rw [h.out c uc] at e
      rcases h.rng b ub h0 with r | ⟨d, ud, r⟩
      · exact absurd (e.symm.trans r) (hf.new c hc)
      · have e2 := hf.inj d c (hu d ud) hc (by omega) (by omega)
        subst e2; exact absurd ud uc
    · rw [h.out b ub] at e h0
      rcases h.rng c uc (by omega) with r | ⟨d, ud, r⟩
      · exact absurd (e.trans r) (hf.new b hb)
      · have e2 := hf.inj d b (hu d ud) hb (by omega) (by omega)
        subst e2; exact absurd ud ub
    · rw [h.out b ub, h.out c uc] at e
      rw [h.out b ub] at h0
      exact hf.inj b c hb hc h0 e
  rng := fun b hb h0 => by
    rcases hd b with ub | ub
    · rcases h.rng b ub h0 with r | ⟨d, ud, r⟩
      · exact .inl r
      · exact .inr ⟨d, hu d ud, r⟩
    · exact .inr ⟨b, hb, (h.out b ub).symm⟩
  keep := fun b hb h0 => by
    rcases hd b with ub | ub
    · obtain ⟨c, uc, e⟩ := h.keep b ub h0
      exact ⟨c, hu c uc, e⟩
    · exact ⟨b, hb, h.out b ub⟩
  has := by obtain ⟨c, uc, e⟩ := h.has; exact ⟨c, hu c uc, e⟩
  dom := by obtain ⟨c, uc, e⟩ := h.dom; exact ⟨c, hu c uc, e⟩
  edge := h.edge
  lo := h.lo
/-- The place b is taken from the one that had it, which goes elsewhere. -/
theorem Found.over {U U' : Nat → Prop} {W : Nat → Bool} {a b : Nat} {ov ov' : Nat → Int} (h0 : 0 ≤ ov b) (h : Found L U' W (ov b).toNat ov ov') (hf : Fit U a ov) (hU : ∀ c, U' c ↔ U c ∧ c ≠ b) (hb : U b) (he : b ∈ L a) (hWb : W b = false) : Found L U W a ov (updI ov' b a) := by
  have hob : ov' b = ov b := h.out b fun x => ((hU b).1 x).2 rfl
  have hcast : (((ov b).toNat : Nat) : Int) = ov b := Int.toNat_of_nonneg h0
  refine ⟨fun c hc => ?_, fun c hc => ?_, fun c d hc hd k0 e => ?_, fun c hc k0 => ?_, fun c hc k0 => ?_, ⟨b, hb, updI_self _ _ _⟩, ?_, fun c => ?_, fun hl c => ?_⟩
  · have hcb : c ≠ b := fun e => hc (e ▸ hb)
    rw [updI_ne hcb]
    exact h.out c fun x => hc ((hU c).1 x).1
  · have hcb : c ≠ b := fun e => by rw [e, hWb] at hc; cases hc
    rw [updI_ne hcb]; exact h.dead c hc
  · have hnew : ∀ x, U x → x ≠ b → ov' x ≠ (a : Int) := fun x hx hxb ex => by
      rcases h.rng x ((hU x).2 ⟨hx, hxb⟩) (by omega) with r | ⟨y, uy, r⟩
      · rw [hcast] at r
        exact hf.new b hb (by omega)
      · exact hf.new y ((hU y).1 uy).1 (by omega)
    by_cases hcb : c = b <;> by_cases hdb : d = b
    · rw [hcb, hdb]
    · rw [hcb, updI_self, updI_ne hdb] at e
      exact absurd e.symm (hnew d hd hdb)
    · rw [hdb, updI_self, updI_ne hcb] at e
      exact absurd e (hnew c hc hcb)
    · rw [updI_ne hcb, updI_ne hdb] at e
      rw [updI_ne hcb] at k0
      exact h.inj c d ((hU c).2 ⟨hc, hcb⟩) ((hU d).2 ⟨hd, hdb⟩) k0 e
  · by_cases hcb : c = b
    · rw [hcb, updI_self]; exact .inl rfl
    · rw [updI_ne hcb] at k0 ⊢
      rcases h.rng c ((hU c).2 ⟨hc, hcb⟩) k0 with r | ⟨d, ud, r⟩
      · rw [hcast] at r
        exact .inr ⟨b, hb, r.symm⟩
      · exact .inr ⟨d, ((hU d).1 ud).1, r⟩
  · have : ∃ d, U' d ∧ ov' d = ov c := by
      by_cases hcb : c = b
      · rw [hcb]
        obtain ⟨d, ud, e⟩ := h.has
        exact ⟨d, ud, e.trans hcast⟩
      · exact h.keep c ((hU c).2 ⟨hc, hcb⟩) k0
    obtain ⟨d, ud, e⟩ := this
    have hd := (hU d).1 ud
    exact ⟨d, hd.1, by rw [updI_ne hd.2]; exact e⟩
  · obtain ⟨d, ud, k1, k2, k3⟩ := h.dom
    have hd := (hU d).1 ud
    refine ⟨d, hd.1, k1, by rw [updI_ne hd.2]; exact k2, fun c hc => ?_⟩
    by_cases hcb : c = b
    · rw [hcb, updI_self]
      exact ⟨fun _ => h0, fun _ => Int.natCast_nonneg _⟩
    · rw [updI_ne hcb]; exact k3 c hc
  · by_cases hcb : c = b
    · rw [hcb, updI_self]
      exact .inr ⟨Int.natCast_nonneg _, by rw [Int.toNat_natCast]; exact he⟩
    · rw [updI_ne hcb]; exact h.edge c
  · by_cases hcb : c = b
    · rw [hcb, updI_self]; omega
    · rw [updI_ne hcb]; exact h.lo hl c
/-- A place that is free. -/
theorem Found.free {U : Nat → Prop} {W : Nat → Bool} {a b : Nat} {ov : Nat → Int} (h0 : ov b < 0) (hf : Fit U a ov) (hb : U b) (he : b ∈ L a) (hWb : W b = false) : Found L U W a ov (updI ov b a) := by
  refine ⟨fun c hc => updI_ne fun e => hc (e ▸ hb), fun c hc => updI_ne fun e => (by rw [e, hWb] at hc; cases hc), fun c d hc hd k0 e => ?_, fun c hc k0 => ?_, fun c hc k0 => ?_, ⟨b, hb, updI_self _ _ _⟩, ⟨b, hb, h0, by rw [updI_self]; exact Int.natCast_nonneg _, fun c hc => by rw [updI_ne hc]⟩, fun c => ?_, fun hl c => ?_⟩
  · by_cases hcb : c = b <;> by_cases hdb : d = b
    · rw [hcb, hdb]
    · rw [hcb, updI_self, updI_ne hdb] at e
      exact absurd e.symm (hf.new d hd)
    · rw [hdb, updI_self, updI_ne hcb] at e
      exact absurd e (hf.new c hc)
    · rw [updI_ne hcb, updI_ne hdb] at e
      rw [updI_ne hcb] at k0
      exact hf.inj c d hc hd k0 e
  · by_cases hcb : c = b
    · rw [hcb, updI_self]; exact .inl rfl
    · rw [updI_ne hcb]; exact .inr ⟨c, hc, rfl⟩
  · have hcb : c ≠ b := fun e => by rw [e] at k0; omega
    exact ⟨c, hc, updI_ne hcb⟩
  · by_cases hcb : c = b
    · rw [hcb, updI_self]
      exact .inr ⟨Int.natCast_nonneg _, by rw [Int.toNat_natCast]; exact he⟩
    · rw [updI_ne hcb]; exact .inl rfl
  · by_cases hcb : c = b
    · rw [hcb, updI_self]; omega
    · rw [updI_ne hcb]; exact hl c
def Un (n : Nat) (mt : Nat → Bool) (b : Nat) : Prop := b < n ∧ mt b = false
theorem un_dec (n : Nat) (mt : Nat → Bool) (b : Nat) : Un n mt b ∨ ¬ Un n mt b := by
  unfold Un
  by_cases h : b < n
  · cases e : mt b
    · exact .inl ⟨h, rfl⟩
    · exact .inr fun x => by cases x.2
  · exact .inr fun x => h x.1
theorem plcL_found {rec : Nat → (Nat → Int) → (Nat → Bool) → Bool × (Nat → Int) × (Nat → Bool)} {k : Nat} {W : Nat → Bool} {ov : Nat → Int} (hW : DeadW L W ov)
    (hrf : ∀ a mt, um n mt < k → (rec a ov mt).1 = false → Fell n L (L a) ov (rec a ov mt).2.1 mt (rec a ov mt).2.2)
    (hrd : ∀ a mt, (∀ b ∈ L a, W b = true) → (rec a ov mt).1 = false)
    (hr : ∀ a mt, um n mt < k → Fit (Un n mt) a ov → (rec a ov mt).1 = true → Found L (Un n mt) W a ov (rec a ov mt).2.1) (a : Nat) :
    ∀ (l : List Nat) (mt : Nat → Bool), (∀ b ∈ l, b < n ∧ b ∈ L a) → um n mt ≤ k → Fit (Un n mt) a ov → (plcL rec a l ov mt).1 = true → Found L (Un n mt) W a ov (plcL rec a l ov mt).2.1
  | [], mt, _, _, _, h => by cases h
  | b :: l, mt, hl, hk, hf, h => by
    unfold plcL at h ⊢
    have hln : ∀ c ∈ l, c < n ∧ c ∈ L a := fun c hc => hl c (List.mem_cons_of_mem _ hc)
    by_cases hm : mt b = true
    · rw [if_pos hm] at h ⊢
      exact plcL_found hW hrf hrd hr a l mt hln hk hf h
    · rw [if_neg hm] at h ⊢
      have hm : mt b = false := by simpa using hm
      obtain ⟨hb, he⟩ := hl b List.mem_cons_self
      by_cases ho : ov b < 0
      · rw [if_pos ho] at h ⊢
        refine Found.free ho hf ⟨hb, hm⟩ he ?_
        cases e : W b
        · rfl
        · have := (hW b e).1; omega
      · rw [if_neg ho] at h ⊢
        have h0 : 0 ≤ ov b := by omega
        have hu := um_upd hb hm
        have hU : ∀ c, Un n (updB mt b true) c ↔ Un n mt c ∧ c ≠ b := fun c => by
          unfold Un
          by_cases hcb : c = b
          · subst hcb; rw [updB_self]; simp
          · rw [updB_ne hcb]; simp [hcb]
        cases hc : (rec (ov b).toNat ov (updB mt b true)).1
        case true =>
          simp only [if_true]
          have hfit : Fit (Un n (updB mt b true)) (ov b).toNat ov := ⟨fun c d hc hd => hf.inj c d ((hU c).1 hc).1 ((hU d).1 hd).1, fun c hc e => by
            rw [Int.toNat_of_nonneg h0] at e
            exact ((hU c).1 hc).2 (hf.inj c b ((hU c).1 hc).1 ⟨hb, hm⟩ (by omega) e)⟩
          refine Found.over h0 (hr _ _ (by omega) hfit hc) hf hU ⟨hb, hm⟩ he ?_
          cases e : W b
          · rfl
          · rw [hrd _ _ (hW b e).2] at hc; cases hc
        case false =>
          rw [hc] at h
          simp only [Bool.false_eq_true, if_false] at h ⊢
          have f1 := hrf (ov b).toNat (updB mt b true) (by omega) hc
          have hmono : ∀ c, mt c = true → (rec (ov b).toNat ov (updB mt b true)).2.2 c = true := fun c h => f1.mono c (updB_mono h)
          rw [f1.same] at h ⊢
          have hsub : ∀ c, Un n (rec (ov b).toNat ov (updB mt b true)).2.2 c → Un n mt c := fun c hc => ⟨hc.1, by
            cases e : mt c
            · rfl
            · have h2 := hc.2
              rw [hmono c e] at h2; cases h2⟩
          exact (plcL_found hW hrf hrd hr a l _ hln (by have := um_mono (n := n) hmono; omega) (hf.less hsub) h).more hf hsub (un_dec n _)
theorem plc_found (hL : ∀ a, ∀ b ∈ L a, b < n) {W : Nat → Bool} {ov : Nat → Int} (hW : DeadW L W ov) : ∀ (k a : Nat) (mt : Nat → Bool), um n mt < k → Fit (Un n mt) a ov → (plc L k a ov mt).1 = true → Found L (Un n mt) W a ov (plc L k a ov mt).2.1
  | 0, _, _, h, _, _ => by omega
  | k + 1, a, mt, h, hf, e => plcL_found hW (fun a mt => plc_fell hL k a ov mt) (fun a mt h => (plc_dead hW k a mt h).1) (plc_found hL hW k) a (L a) mt (fun b hb => ⟨hL a b hb, hb⟩) (by omega) hf e
/-! ### All of them, one after the other -/
def prf (L : Nat → List Nat) (n : Nat) : Nat → Nat → Int
  | 0 => fun _ => -1
  | m + 1 => (plc L (n + 1) m (prf L n m) (fun _ => false)).2.1
structure PrfOK (L : Nat → List Nat) (n m : Nat) (ov : Nat → Int) : Prop where
  lo : ∀ b, -1 ≤ ov b
  hi : ∀ b, 0 ≤ ov b → ov b < (m : Int) ∧ b < n ∧ b ∈ L (ov b).toNat
  inj : ∀ b c, 0 ≤ ov b → ov b = ov c → b = c
  dead : ∃ W : Nat → Bool, DeadW L W ov ∧ ∀ a, a < m → (∃ b, b < n ∧ ov b = (a : Int)) ∨ ∀ b ∈ L a, W b = true
theorem um_none (n : Nat) : um n (fun _ => false) ≤ n := by
  have := List.length_filter_le (fun b => !(fun _ => false : Nat → Bool) b) (List.range n)
  rw [List.length_range] at this
  exact this
theorem prf_ok (hL : ∀ a, ∀ b ∈ L a, b < n) : ∀ m, PrfOK L n m (prf L n m)
  | 0 => ⟨fun b => Int.le_refl _, fun b h => (by have h2 : (0 : Int) ≤ -1 := h; omega), fun b c h => (by have h2 : (0 : Int) ≤ -1 := h; omega), fun _ => false, fun b h => (by cases h), fun a h => (by omega)⟩
  | m + 1 => by
    have ih := prf_ok hL m
    obtain ⟨W, hW, hA⟩ := ih.dead
    have hu : um n (fun _ => false) < n + 1 := by have := um_none n; omega
    have hun : ∀ b, Un n (fun _ => false) b ↔ b < n := fun b => by unfold Un; simp
    show PrfOK L n (m + 1) (plc L (n + 1) m (prf L n m) (fun _ => false)).2.1
    cases hc : (plc L (n + 1) m (prf L n m) (fun _ => false)).1
    · have f := plc_fell hL (n + 1) m (prf L n m) (fun _ => false) hu hc
      rw [f.same]
      refine ⟨ih.lo, fun b h => (by have h2 := ih.hi b h; exact ⟨by omega, h2.2⟩), ih.inj, fun b => W b || (plc L (n + 1) m (prf L n m) (fun _ => false)).2.2 b, fun b hb => ?_, fun a ha => ?_⟩
      · rcases Bool.or_eq_true_iff.1 hb with h | h
        · exact ⟨(hW b h).1, fun c hc => by rw [Bool.or_eq_true]; exact .inl ((hW b h).2 c hc)⟩
        · obtain ⟨q1, q2, q3⟩ := f.dead b h rfl
          exact ⟨q2, fun c hc => by rw [Bool.or_eq_true]; exact .inr (q3 c hc)⟩
      · by_cases e : a = m
        · subst e
          exact .inr fun b hb => by rw [Bool.or_eq_true]; exact .inr (f.all b hb)
        · rcases hA a (by omega) with h | h
          · exact .inl h
          · exact .inr fun b hb => by rw [Bool.or_eq_true]; exact .inl (h b hb)
    · have hf : Fit (Un n (fun _ => false)) m (prf L n m) := ⟨fun b c _ _ => ih.inj b c, fun b hb e => by have := ih.hi b (by omega); omega⟩
      have f := plc_found hL hW (n + 1) m (fun _ => false) hu hf hc
      refine ⟨f.lo ih.lo, fun b h => ?_, fun b c h e => ?_, W, fun b hb => ?_, fun a ha => ?_⟩
      · have hbn : b < n := by
          by_cases hbn : b < n
          · exact hbn
          · rw [f.out b fun x => hbn ((hun b).1 x)] at h
            exact (ih.hi b h).2.1
        refine ⟨?_, hbn, ?_⟩
        · rcases f.rng b ((hun b).2 hbn) h with r | ⟨c, hc, r⟩
          · omega
          · have := ih.hi c (by omega); omega
        · rcases f.edge b with e | e
          · rw [e] at h ⊢; exact (ih.hi b h).2.2
          · exact e.2
      · have hin : ∀ x, 0 ≤ (plc L (n + 1) m (prf L n m) (fun _ => false)).2.1 x → x < n := fun x hx => by
          by_cases hbn : x < n
          · exact hbn
          · rw [f.out x fun y => hbn ((hun x).1 y)] at hx
            exact (ih.hi x hx).2.1
        exact f.inj b c ((hun b).2 (hin b h)) ((hun c).2 (hin c (by omega))) h e
      · rw [f.dead b hb]; exact hW b hb
      · by_cases e : a = m
        · subst e
          obtain ⟨c, hc, e⟩ := f.has
          exact .inl ⟨c, (hun c).1 hc, e⟩
        · rcases hA a (by omega) with ⟨b, hb, h⟩ | h
          · obtain ⟨c, hc, e⟩ := f.keep b ((hun b).2 hb) (by omega)
            exact .inl ⟨c, (hun c).1 hc, by omega⟩
          · exact .inr h
end
/-! ### As many as a set that covers all pairs -/
theorem nodup_le {α : Type} [DecidableEq α] : ∀ (l m : List α), l.Nodup → (∀ x ∈ l, x ∈ m) → l.length ≤ m.length
  | [], m, _, _ => by simp
  | x :: l, m, h, hs => by
    have h1 := List.nodup_cons.1 h
    have ih := nodup_le l (m.erase x) h1.2 (fun y hy => by
      have hne : y ≠ x := fun e => h1.1 (e ▸ hy)
      exact (List.mem_erase_of_ne hne).2 (hs y (List.mem_cons_of_mem _ hy)))
    have hx := hs x List.mem_cons_self
    have hl := List.length_erase_of_mem hx
    have hp := List.length_pos_of_mem hx
    simp only [List.length_cons]
    omega
/-- The weighings that have one above them. -/
def matL (n : Nat) (ov : Nat → Int) : List Nat := (List.range n).filter fun b => decide (0 ≤ ov b)
section
variable {n : Nat} {L : Nat → List Nat} {ov : Nat → Int}
/-- No set that covers all pairs is smaller (pairs are an order). -/
theorem cover_ge (h : PrfOK L n n ov) (htr : ∀ a b c, b ∈ L a → c ∈ L b → c ∈ L a) (S : List Nat) (hS : ∀ a b, a < n → b ∈ L a → a ∈ S ∨ b ∈ S) : (matL n ov).length ≤ S.length := by
  have hin : ∀ b ∈ matL n ov, b < n ∧ 0 ≤ ov b := fun b hb => by
    have := List.mem_filter.1 hb
    exact ⟨List.mem_range.1 this.1, by simpa using this.2⟩
  have key : ∀ v : Nat, (∃ u, u ∉ S ∧ (u = v ∨ u ∈ L v)) ∨ ¬ ∃ u, u ∉ S ∧ (u = v ∨ u ∈ L v) := fun v => Classical.em _
  obtain ⟨D, hD⟩ : ∃ D : Nat → Bool, ∀ v, D v = true ↔ ∃ u, u ∉ S ∧ (u = v ∨ u ∈ L v) := by
    refine ⟨fun v => @decide _ (Classical.propDecidable (∃ u, u ∉ S ∧ (u = v ∨ u ∈ L v))), fun v => ?_⟩
    exact @decide_eq_true_iff _ (Classical.propDecidable _)
  let g : Nat → Nat := fun b => if D b = true then (ov b).toNat else b
  have hg : ∀ b ∈ matL n ov, g b ∈ S := fun b hb => by
    obtain ⟨hbn, h0⟩ := hin b hb
    have hi := h.hi b h0
    by_cases e : D b = true
    · have e1 : g b = (ov b).toNat := if_pos e
      rw [e1]
      obtain ⟨u, hu, hr⟩ := (hD b).1 e
      have hbu : u ∈ L (ov b).toNat := by
        rcases hr with rfl | hr
        · exact hi.2.2
        · exact htr _ _ _ hi.2.2 hr
      rcases hS (ov b).toNat u (by omega) hbu with x | x
      · exact x
      · exact absurd x hu
    · have e1 : g b = b := if_neg e
      rw [e1]
      by_cases hx : b ∈ S
      · exact hx
      · exact absurd ((hD b).2 ⟨b, hx, .inl rfl⟩) e
  have hinj : ∀ b ∈ matL n ov, ∀ c ∈ matL n ov, g b = g c → b = c := fun b hb c hc e => by
    obtain ⟨hbn, hb0⟩ := hin b hb
    obtain ⟨hcn, hc0⟩ := hin c hc
    have no : ∀ x y, 0 ≤ ov x → D x = true → ¬ D y = true → (ov x).toNat = y → False := fun x y hx0 hx hy e => by
      obtain ⟨u, hu, hr⟩ := (hD x).1 hx
      have hi := h.hi x hx0
      refine hy ((hD y).2 ⟨u, hu, .inr ?_⟩)
      rw [← e]
      rcases hr with rfl | hr
      · exact hi.2.2
      · exact htr _ _ _ hi.2.2 hr
    by_cases e1 : D b = true <;> by_cases e2 : D c = true
    · have x1 : g b = (ov b).toNat := if_pos e1
      have x2 : g c = (ov c).toNat := if_pos e2
      exact h.inj b c hb0 (by omega)
    · have x1 : g b = (ov b).toNat := if_pos e1
      have x2 : g c = c := if_neg e2
      exact (no b c hb0 e1 e2 (by omega)).elim
    · have x1 : g b = b := if_neg e1
      have x2 : g c = (ov c).toNat := if_pos e2
      exact (no c b hc0 e2 e1 (by omega)).elim
    · have x1 : g b = b := if_neg e1
      have x2 : g c = c := if_neg e2
      omega
  have hnd : ∀ l : List Nat, l.Nodup → (∀ b ∈ l, ∀ c ∈ l, g b = g c → b = c) → (l.map g).Nodup := by
    intro l
    induction l with
    | nil => intro _ _; exact List.nodup_nil
    | cons x l ih =>
      intro hn hi
      have h1 := List.nodup_cons.1 hn
      rw [List.map_cons]
      refine List.nodup_cons.2 ⟨fun hm => ?_, ih h1.2 fun b hb c hc => hi b (List.mem_cons_of_mem _ hb) c (List.mem_cons_of_mem _ hc)⟩
      obtain ⟨y, hy, e⟩ := List.mem_map.1 hm
      have := hi y (List.mem_cons_of_mem _ hy) x List.mem_cons_self e
      subst this
      exact h1.1 hy
  have hno : (matL n ov).Nodup := List.Pairwise.filter _ List.nodup_range
  have := nodup_le ((matL n ov).map g) S (hnd _ hno hinj) (fun x hx => by
    obtain ⟨b, hb, rfl⟩ := List.mem_map.1 hx
    exact hg b hb)
  rwa [List.length_map] at this
/-- And there is one that is no greater. -/
theorem cover_le (h : PrfOK L n n ov) : ∃ p : Nat → Bool, (∀ a b, a < n → b ∈ L a → p a = true ∨ p b = true) ∧ ((List.range n).filter p).length ≤ (matL n ov).length := by
  obtain ⟨W, hW, hA⟩ := h.dead
  refine ⟨fun v => W v || (List.range n).any fun b => decide (ov b = (v : Int)) && !W b, fun a b ha hb => ?_, ?_⟩
  · rcases hA a ha with ⟨c, hc, e⟩ | e
    · cases hw : W c
      · refine .inl ?_
        rw [Bool.or_eq_true, List.any_eq_true]
        exact .inr ⟨c, List.mem_range.2 hc, by simp [e, hw]⟩
      · have := (hW c hw).2 b (by rw [e, Int.toNat_natCast]; exact hb)
        exact .inr (by rw [Bool.or_eq_true]; exact .inl this)
    · exact .inr (by rw [Bool.or_eq_true]; exact .inl (e b hb))
  · have := nodup_le ((List.range n).filter fun v => W v || (List.range n).any fun b => decide (ov b = (v : Int)) && !W b) ((matL n ov).map fun b => if W b = true then b else (ov b).toNat) (List.Pairwise.filter _ List.nodup_range) (fun v hv => by
      have hv2 := (List.mem_filter.1 hv).2
      have hv1 := List.mem_range.1 (List.mem_filter.1 hv).1
      rw [List.mem_map]
      cases hw : W v
      · rw [hw, Bool.false_or, List.any_eq_true] at hv2
        obtain ⟨b, hb, e⟩ := hv2
        have hb := List.mem_range.1 hb
        simp only [Bool.and_eq_true, decide_eq_true_eq, Bool.not_eq_true'] at e
        refine ⟨b, List.mem_filter.2 ⟨List.mem_range.2 hb, by simp [e.1]⟩, ?_⟩
        rw [if_neg (by rw [e.2]; decide), e.1, Int.toNat_natCast]
      · refine ⟨v, List.mem_filter.2 ⟨List.mem_range.2 hv1, by simpa using (hW v hw).1⟩, ?_⟩
        rw [if_pos hw])
    rwa [List.length_map] at this
end
end Go.Proofs.YtjnobdcbbboeeaaGreat

namespace Go.Proofs.YtjnobdcbbboeeaaGreat
open Go Go.RowKit
set_option linter.unusedVariables false
set_option linter.unusedSimpArgs false

abbrev Rt := Int × Int
def rval (r : Rt) : Value := .agg #[.int .i64 r.1, .int .i64 r.2]
def abv (a b : Rt) : Bool := decide (b.1 * a.2 < a.1 * b.2)
/-- The divisor that Euclid's way finds, with so many steps. -/
def gcdT : Nat → Int → Int → Int
  | 0, a, _ => a
  | k + 1, a, b => if 0 < b then gcdT k b (a.tmod b) else a
def gcdZ (a b : Int) : Int := gcdT (b.toNat + 1) a b
def lowR (n d : Int) : Rt := (n.tdiv (gcdZ n d), d.tdiv (gcdZ n d))
def greatL (r : Rt) : List Rt → Rt
  | [] => r
  | q :: l => greatL (if abv q r then q else r) l
theorem gcdT_more : ∀ (k k' : Nat) (a b : Int), 0 ≤ a → 0 ≤ b → b.toNat < k → b.toNat < k' → gcdT k a b = gcdT k' a b
  | 0, _, _, _, _, _, h, _ => by omega
  | _ + 1, 0, _, _, _, _, _, h => by omega
  | k + 1, k' + 1, a, b, ha, hb, h, h' => by
    unfold gcdT
    by_cases hp : 0 < b
    · rw [if_pos hp, if_pos hp]
      have e : a.tmod b = a % b := Int.tmod_eq_emod_of_nonneg ha
      have h1 := Int.emod_nonneg a (show b ≠ 0 by omega)
      have h2 := Int.emod_lt_of_pos a hp
      exact gcdT_more k k' b (a.tmod b) hb (by omega) (by omega) (by omega)
    · rw [if_neg hp, if_neg hp]
theorem gcdT_ok : ∀ (k : Nat) (a b : Int), 0 ≤ a → 0 ≤ b → (0 < a ∨ 0 < b) → b.toNat < k → 0 < gcdT k a b ∧ gcdT k a b ∣ a ∧ gcdT k a b ∣ b ∧ ∀ c, c ∣ a → c ∣ b → c ∣ gcdT k a b
  | 0, _, _, _, _, _, h => by omega
  | k + 1, a, b, ha, hb, hab, hk => by
    unfold gcdT
    by_cases h : 0 < b
    · rw [if_pos h]
      have e : a.tmod b = a % b := Int.tmod_eq_emod_of_nonneg ha
      have h1 := Int.emod_nonneg a (show b ≠ 0 by omega)
      have h2 := Int.emod_lt_of_pos a h
      obtain ⟨i1, ⟨x, hx⟩, ⟨y, hy⟩, i4⟩ := gcdT_ok k b (a.tmod b) hb (by omega) (.inl h) (by omega)
      have ea : b * (a / b) + a % b = a := Int.mul_ediv_add_emod a b
      refine ⟨i1, ⟨x * (a / b) + y, ?_⟩, ⟨x, hx⟩, fun c ⟨p, hp⟩ ⟨q, hq⟩ => i4 c ⟨q, hq⟩ ⟨p - q * (a / b), ?_⟩⟩
      · rw [Int.mul_add, ← Int.mul_assoc, ← hx, ← hy, e]; exact ea.symm
      · rw [Int.mul_sub, ← Int.mul_assoc, ← hp, ← hq, e]; omega
    · rw [if_neg h]
      have hb0 : b = 0 := by omega
      exact ⟨by omega, Int.dvd_refl a, by rw [hb0]; exact Int.dvd_zero a, fun c c1 _ => c1⟩
theorem gcdZ_ok {a b : Int} (ha : 0 < a) (hb : 0 < b) : 0 < gcdZ a b ∧ gcdZ a b ∣ a ∧ gcdZ a b ∣ b ∧ ∀ c, c ∣ a → c ∣ b → c ∣ gcdZ a b :=
  gcdT_ok _ a b (by omega) (by omega) (.inl ha) (by omega)
/-- What a ratio in lowest terms is. -/
structure LowOK (n d : Int) (g : Int) (r : Rt) : Prop where
  gp : 0 < g
  nn : n = g * r.1
  dd : d = g * r.2
  n0 : 0 < r.1
  d0 : 0 < r.2
theorem pos_of_mul {g x : Int} (hg : 0 < g) (h : 0 < g * x) : 0 < x := by
  refine Int.not_le.1 fun hx => ?_
  have := Int.mul_le_mul_of_nonneg_left hx (show 0 ≤ g by omega)
  rw [Int.mul_zero] at this
  omega
theorem lowR_ok {n d : Int} (hn : 0 < n) (hd : 0 < d) : LowOK n d (gcdZ n d) (lowR n d) := by
  obtain ⟨h1, ⟨x, hx⟩, ⟨y, hy⟩, -⟩ := gcdZ_ok hn hd
  have hne : gcdZ n d ≠ 0 := by omega
  have e1 : n.tdiv (gcdZ n d) = x := by
    conv => lhs; rw [hx]
    rw [show gcdZ (gcdZ n d * x) d = gcdZ n d by rw [← hx]]
    exact Int.mul_tdiv_cancel_left x hne
  have e2 : d.tdiv (gcdZ n d) = y := by
    have := Int.mul_tdiv_cancel_left y hne
    rw [← hy] at this
    exact this
  refine ⟨h1, ?_, ?_, ?_, ?_⟩ <;> unfold lowR <;> simp only [e1, e2]
  · exact hx
  · exact hy
  · exact pos_of_mul h1 (by omega)
  · exact pos_of_mul h1 (by omega)
theorem lowR_le {n d : Int} (hn : 0 < n) (hd : 0 < d) : (lowR n d).1 ≤ n ∧ (lowR n d).2 ≤ d := by
  have h := lowR_ok hn hd
  have h1 := Int.mul_le_mul_of_nonneg_right (show (1 : Int) ≤ gcdZ n d from h.gp) (Int.le_of_lt h.n0)
  have h2 := Int.mul_le_mul_of_nonneg_right (show (1 : Int) ≤ gcdZ n d from h.gp) (Int.le_of_lt h.d0)
  rw [Int.one_mul] at h1 h2
  rw [← h.nn] at h1
  rw [← h.dd] at h2
  exact ⟨h1, h2⟩
theorem mul_lt_iff {g x y : Int} (hg : 0 < g) : g * x < g * y ↔ x < y := by
  constructor
  · intro h
    refine Int.not_le.1 fun hx => ?_
    have := Int.mul_le_mul_of_nonneg_left hx (show 0 ≤ g by omega)
    omega
  · intro h
    exact Int.mul_lt_mul_of_pos_left h hg
/-- Ratios in lowest terms compare as the numbers that they are of. -/
theorem abv_low {n d n' d' g g' : Int} {r r' : Rt} (h : LowOK n d g r) (h' : LowOK n' d' g' r') : abv r r' = decide (n' * d < n * d') := by
  unfold abv
  rw [Bool.eq_iff_iff, decide_eq_true_eq, decide_eq_true_eq]
  have e1 : n' * d = (g * g') * (r'.1 * r.2) := by rw [h'.nn, h.dd]; simp only [Int.mul_assoc, Int.mul_comm, Int.mul_left_comm]
  have e2 : n * d' = (g * g') * (r.1 * r'.2) := by rw [h.nn, h'.dd]; simp only [Int.mul_assoc, Int.mul_comm, Int.mul_left_comm]
  rw [e1, e2]
  exact (mul_lt_iff (Int.mul_pos h.gp h'.gp)).symm
theorem low_self (r : Rt) (h1 : 0 < r.1) (h2 : 0 < r.2) : LowOK r.1 r.2 1 r := ⟨by decide, by rw [Int.one_mul], by rw [Int.one_mul], h1, h2⟩
/-! ### The order of ratios -/
def Rpos (r : Rt) : Prop := 0 < r.1 ∧ 0 < r.2
theorem lowR_pos {n d : Int} (hn : 0 < n) (hd : 0 < d) : Rpos (lowR n d) := ⟨(lowR_ok hn hd).n0, (lowR_ok hn hd).d0⟩
/-- At most. -/
def leR (a b : Rt) : Prop := a.1 * b.2 ≤ b.1 * a.2
theorem abv_iff {a b : Rt} : abv a b = true ↔ ¬ leR a b := by
  unfold abv leR
  rw [decide_eq_true_eq]; omega
theorem abv_not {a b : Rt} : abv a b = false ↔ leR a b := by
  rw [← Bool.not_eq_true, abv_iff]; exact Classical.not_not
theorem leR_refl (a : Rt) : leR a a := Int.le_refl _
theorem leR_total (a b : Rt) : leR a b ∨ leR b a := by unfold leR; omega
theorem leR_trans {a b c : Rt} (ha : Rpos a) (hb : Rpos b) (hc : Rpos c) (h1 : leR a b) (h2 : leR b c) : leR a c := by
  unfold leR at *
  obtain ⟨a1, a2⟩ := ha
  obtain ⟨b1, b2⟩ := hb
  obtain ⟨c1, c2⟩ := hc
  have k1 := Int.mul_le_mul_of_nonneg_right h1 (Int.le_of_lt c2)
  have k2 := Int.mul_le_mul_of_nonneg_right h2 (Int.le_of_lt a2)
  refine Int.not_lt.1 fun h => ?_
  have k3 := Int.mul_lt_mul_of_pos_left h b2
  have e1 : a.1 * b.2 * c.2 = b.2 * (a.1 * c.2) := by simp only [Int.mul_assoc, Int.mul_comm, Int.mul_left_comm]
  have e2 : b.1 * a.2 * c.2 = b.1 * c.2 * a.2 := by simp only [Int.mul_assoc, Int.mul_comm, Int.mul_left_comm]
  have e3 : c.1 * b.2 * a.2 = b.2 * (c.1 * a.2) := by simp only [Int.mul_assoc, Int.mul_comm, Int.mul_left_comm]
  omega
theorem great_ge : ∀ (l : List Rt) (r : Rt), Rpos r → (∀ q ∈ l, Rpos q) → leR r (greatL r l) ∧ (∀ q ∈ l, leR q (greatL r l)) ∧ (greatL r l = r ∨ greatL r l ∈ l) ∧ Rpos (greatL r l)
  | [], r, hr, _ => ⟨leR_refl r, fun q h => (by cases h), .inl rfl, hr⟩
  | q :: l, r, hr, hl => by
    have hq := hl q List.mem_cons_self
    have hl' : ∀ x ∈ l, Rpos x := fun x hx => hl x (List.mem_cons_of_mem _ hx)
    unfold greatL
    by_cases h : abv q r = true
    · rw [if_pos h]
      obtain ⟨i1, i2, i3, i4⟩ := great_ge l q hq hl'
      have hrq : leR r q := (leR_total r q).elim id fun x => absurd x (abv_iff.1 h)
      refine ⟨leR_trans hr hq i4 hrq i1, fun x hx => ?_, ?_, i4⟩
      · rcases List.mem_cons.1 hx with rfl | hx
        · exact i1
        · exact i2 x hx
      · rcases i3 with i3 | i3
        · exact .inr (by rw [i3]; exact List.mem_cons_self)
        · exact .inr (List.mem_cons_of_mem _ i3)
    · rw [if_neg h]
      obtain ⟨i1, i2, i3, i4⟩ := great_ge l r hr hl'
      have hqr : leR q r := abv_not.1 (by simpa using h)
      refine ⟨i1, fun x hx => ?_, ?_, i4⟩
      · rcases List.mem_cons.1 hx with rfl | hx
        · exact leR_trans hq hr i4 hqr i1
        · exact i2 x hx
      · rcases i3 with i3 | i3
        · exact .inl i3
        · exact .inr (List.mem_cons_of_mem _ i3)
/-! ### The reference's way to lowest terms -/
def lowT (k : Nat) (n d : Int) : Rt := match k with
  | 0 => (n, d)
  | k + 1 => if 2 ≤ k + 1 ∧ n % ((k + 1 : Nat) : Int) = 0 ∧ d % ((k + 1 : Nat) : Int) = 0 then lowT k (n / ((k + 1 : Nat) : Int)) (d / ((k + 1 : Nat) : Int)) else lowT k n d
theorem lowT_prime : ∀ (k : Nat) (n d : Int), 0 < n → 0 < d → (∀ c : Int, 0 < c → c ∣ n → c ∣ d → c = 1) → lowT k n d = (n, d)
  | 0, n, d, _, _, _ => rfl
  | k + 1, n, d, hn, hd, h => by
    unfold lowT
    rw [if_neg]
    · exact lowT_prime k n d hn hd h
    · rintro ⟨h1, h2, h3⟩
      have := h ((k + 1 : Nat) : Int) (by omega) (Int.dvd_of_emod_eq_zero h2) (Int.dvd_of_emod_eq_zero h3)
      omega
theorem lowT_is : ∀ (k : Nat) (n d : Int), 0 < n → 0 < d → gcdZ n d ≤ (k : Int) → lowT k n d = lowR n d
  | 0, n, d, hn, hd, h => by have := (gcdZ_ok hn hd).1; omega
  | k + 1, n, d, hn, hd, h => by
    have hg := gcdZ_ok hn hd
    have hlo := lowR_ok hn hd
    unfold lowT
    by_cases e : gcdZ n d = ((k + 1 : Nat) : Int)
    · by_cases h2 : 2 ≤ k + 1
      · have hgp : 0 < gcdZ n d := hg.1
        have m1 : n % ((k + 1 : Nat) : Int) = 0 := by rw [← e]; exact Int.emod_eq_zero_of_dvd hg.2.1
        have m2 : d % ((k + 1 : Nat) : Int) = 0 := by rw [← e]; exact Int.emod_eq_zero_of_dvd hg.2.2.1
        rw [if_pos ⟨h2, m1, m2⟩, ← e]
        have q1 : n / gcdZ n d = (lowR n d).1 := Int.ediv_eq_of_eq_mul_right (by omega) hlo.nn
        have q2 : d / gcdZ n d = (lowR n d).2 := Int.ediv_eq_of_eq_mul_right (by omega) hlo.dd
        rw [q1, q2]
        refine lowT_prime k _ _ hlo.n0 hlo.d0 fun c hc ⟨x, hx⟩ ⟨y, hy⟩ => ?_
        have hdv : gcdZ n d * c ∣ gcdZ n d := hg.2.2.2 _ ⟨x, by rw [Int.mul_assoc, ← hx]; exact hlo.nn⟩ ⟨y, by rw [Int.mul_assoc, ← hy]; exact hlo.dd⟩
        have hle := Int.le_of_dvd hgp hdv
        refine Int.le_antisymm ?_ (by omega)
        refine Int.not_lt.1 fun h1 => ?_
        have := Int.mul_lt_mul_of_pos_left h1 hgp
        rw [Int.mul_one] at this
        omega
      · have hk : k = 0 := by omega
        subst hk
        rw [if_neg (by omega)]
        unfold lowT
        have e1 : gcdZ n d = 1 := by rw [e]; rfl
        have n1 := hlo.nn
        have d1 := hlo.dd
        rw [e1, Int.one_mul] at n1 d1
        exact Prod.ext n1 d1
    · rw [if_neg, lowT_is k n d hn hd (by omega)]
      rintro ⟨h1, h2, h3⟩
      have hdv := hg.2.2.2 ((k + 1 : Nat) : Int) (Int.dvd_of_emod_eq_zero h2) (Int.dvd_of_emod_eq_zero h3)
      have := Int.le_of_dvd hg.1 hdv
      omega
end Go.Proofs.YtjnobdcbbboeeaaGreat

namespace Go.Proofs.YtjnobdcbbboeeaaGreat
open Go Go.RowKit
set_option linter.unusedVariables false
set_option linter.unusedSimpArgs false

def tryL (f : Nat → Option (List Int)) : Nat → Nat → Option (List Int)
  | _, 0 => none
  | k, c + 1 => match f k with
    | some r => some r
    | none => tryL f (k + 1) c
/-- The first list that goes on from l with so many numbers more, from k on, below wi, for which p holds. -/
def moreL (p : List Int → Bool) (wi : Nat) : Nat → List Int → Nat → Option (List Int)
  | 0, l, _ => if p l then some l else none
  | m + 1, l, k => tryL (fun n => moreL p wi m (l ++ [(n : Int)]) (n + 1)) k (wi - k)
def fewL (p : List Int → Bool) (wi : Nat) : Option (List Int) := tryL (fun many => moreL p wi many [] 0) 0 (wi + 1)

def memI (x : Int) (l : List Int) : Bool := l.any fun y => x == y
theorem tryL_some {f : Nat → Option (List Int)} {r : List Int} : ∀ (c k : Nat), tryL f k c = some r → ∃ j, k ≤ j ∧ j < k + c ∧ f j = some r ∧ ∀ i, k ≤ i → i < j → f i = none := by
  intro c
  induction c with
  | zero => intro k h; simp [tryL] at h
  | succ c ih =>
    intro k h
    unfold tryL at h
    rcases hf : f k with _ | x
    · rw [hf] at h
      obtain ⟨j, h1, h2, h3, h4⟩ := ih (k + 1) h
      refine ⟨j, by omega, by omega, h3, fun i i1 i2 => ?_⟩
      by_cases e : i = k
      · subst e; exact hf
      · exact h4 i (by omega) i2
    · rw [hf] at h
      cases h
      exact ⟨k, by omega, by omega, hf, fun i i1 i2 => by omega⟩
theorem tryL_none {f : Nat → Option (List Int)} : ∀ (c k : Nat), tryL f k c = none → ∀ j, k ≤ j → j < k + c → f j = none := by
  intro c
  induction c with
  | zero => intro k _ j h1 h2; omega
  | succ c ih =>
    intro k h j h1 h2
    unfold tryL at h
    rcases hf : f k with _ | x
    · rw [hf] at h
      by_cases e : j = k
      · subst e; exact hf
      · exact ih (k + 1) h j (by omega) (by omega)
    · rw [hf] at h; cases h

/-- A list of numbers that grow, from k on, below wi. -/
def Asc : Nat → Nat → List Int → Prop
  | _, _, [] => True
  | k, wi, x :: e => (k : Int) ≤ x ∧ x < wi ∧ Asc (x.toNat + 1) wi e
/-- What slices.Compare answers. -/
def cmpL : List Int → List Int → Int
  | [], [] => 0
  | [], _ :: _ => -1
  | _ :: _, [] => 1
  | x :: a, y :: b => if x < y then -1 else if y < x then 1 else cmpL a b
theorem Asc.len : ∀ {e : List Int} {k wi : Nat}, Asc k wi e → e.length + k ≤ wi ∨ e = [] := by
  intro e
  induction e with
  | nil => exact fun _ => .inr rfl
  | cons x e ih =>
    intro k wi h
    obtain ⟨h1, h2, h3⟩ := h
    left
    rcases ih h3 with h4 | h4
    · simp only [List.length_cons]; omega
    · subst h4; simp; omega
theorem Asc.mem : ∀ {e : List Int} {k wi : Nat}, Asc k wi e → ∀ x ∈ e, (k : Int) ≤ x ∧ x < wi := by
  intro e
  induction e with
  | nil => intro k wi _ x h; cases h
  | cons y e ih =>
    intro k wi h x hx
    obtain ⟨h1, h2, h3⟩ := h
    rcases List.mem_cons.1 hx with rfl | hx
    · exact ⟨h1, h2⟩
    · have := ih h3 x hx; omega
theorem Asc.lt : ∀ {e : List Int} {k wi : Nat}, Asc k wi e → e.Pairwise (· < ·) := by
  intro e
  induction e with
  | nil => exact fun _ => .nil
  | cons y e ih =>
    intro k wi h
    obtain ⟨h1, h2, h3⟩ := h
    exact .cons (fun x hx => by have := h3.mem x hx; omega) (ih h3)
theorem Asc.filter (P : Nat → Bool) (wi : Nat) : ∀ (c k : Nat), k + c = wi → Asc k wi (((List.range' k c).filter P).map (fun n : Nat => (n : Int))) := by
  intro c
  induction c with
  | zero => intro k _; simp [Asc]
  | succ c ih =>
    intro k h
    have h2 := ih (k + 1) (by omega)
    rw [List.range'_succ, List.filter_cons]
    have hup : ∀ {e : List Int}, Asc (k + 1) wi e → Asc k wi e := fun {e} he => by
      cases e with
      | nil => trivial
      | cons y e => exact ⟨by have := he.1; omega, he.2.1, he.2.2⟩
    split
    · simp only [List.map_cons]
      exact ⟨by omega, by omega, by rw [Int.toNat_natCast]; exact h2⟩
    · exact hup h2

theorem moreL_spec (p : List Int → Bool) (wi : Nat) : ∀ (m : Nat) (l : List Int) (k : Nat),
    (∀ r, moreL p wi m l k = some r → ∃ e, r = l ++ e ∧ e.length = m ∧ Asc k wi e ∧ p r = true ∧ ∀ e', e'.length = m → Asc k wi e' → cmpL e' e < 0 → p (l ++ e') = false) ∧
    (moreL p wi m l k = none → ∀ e', e'.length = m → Asc k wi e' → p (l ++ e') = false) := by
  intro m
  induction m with
  | zero =>
    intro l k
    refine ⟨fun r h => ?_, fun h e' he _ => ?_⟩
    · unfold moreL at h
      split at h
      · rename_i hp
        cases h
        refine ⟨[], by simp, rfl, trivial, hp, fun e' he _ hc => ?_⟩
        obtain rfl := List.eq_nil_of_length_eq_zero he
        simp [cmpL] at hc
      · cases h
    · obtain rfl := List.eq_nil_of_length_eq_zero he
      unfold moreL at h
      split at h
      · cases h
      · rename_i hp; simpa using hp
  | succ m ih =>
    intro l k
    have hn : ∀ j : Nat, moreL p wi m (l ++ [(j : Int)]) (j + 1) = none → ∀ x e', x = (j : Int) → e'.length = m → Asc (x.toNat + 1) wi e' → p (l ++ x :: e') = false := fun j hj x e' hx hl ha => by
      subst hx
      have := (ih (l ++ [(j : Int)]) (j + 1)).2 hj e' hl (by rw [Int.toNat_natCast] at ha; exact ha)
      simpa using this
    refine ⟨fun r h => ?_, fun h e' he ha => ?_⟩
    · unfold moreL at h
      obtain ⟨j, j1, j2, j3, j4⟩ := tryL_some _ _ h
      obtain ⟨e, rfl, e1, e2, e3, e4⟩ := (ih (l ++ [(j : Int)]) (j + 1)).1 r j3
      refine ⟨(j : Int) :: e, by simp, by simp [e1], ⟨by omega, by omega, by rw [Int.toNat_natCast]; exact e2⟩, e3, fun e' he ha hc => ?_⟩
      cases e' with
      | nil => simp at he
      | cons x e' =>
        obtain ⟨a1, a2, a3⟩ := ha
        simp only [List.length_cons, Nat.add_right_cancel_iff] at he
        unfold cmpL at hc
        by_cases h1 : x < (j : Int)
        · exact hn x.toNat (j4 x.toNat (by omega) (by omega)) x e' (by omega) he a3
        · rw [if_neg h1] at hc
          by_cases h2 : (j : Int) < x
          · rw [if_pos h2] at hc; omega
          · rw [if_neg h2] at hc
            obtain rfl : x = (j : Int) := by omega
            have := e4 e' he (by rw [Int.toNat_natCast] at a3; exact a3) hc
            simpa using this
    · unfold moreL at h
      cases e' with
      | nil => simp at he
      | cons x e' =>
        obtain ⟨a1, a2, a3⟩ := ha
        simp only [List.length_cons, Nat.add_right_cancel_iff] at he
        exact hn x.toNat (tryL_none _ _ h x.toNat (by omega) (by omega)) x e' (by omega) he a3
/-- A list that is shorter, or as long and comes before. -/
def fewerL (a b : List Int) : Bool := decide (a.length < b.length) || (a.length == b.length && decide (cmpL a b < 0))
theorem fewL_some {p : List Int → Bool} {wi : Nat} {r : List Int} (h : fewL p wi = some r) : Asc 0 wi r ∧ p r = true ∧ ∀ r', Asc 0 wi r' → fewerL r' r = true → p r' = false := by
  unfold fewL at h
  obtain ⟨j, j1, j2, j3, j4⟩ := tryL_some _ _ h
  obtain ⟨e, e0, e1, e2, e3, e4⟩ := (moreL_spec p wi j [] 0).1 r j3
  rw [List.nil_append] at e0
  subst e0
  refine ⟨e2, e3, fun r' ha hf => ?_⟩
  unfold fewerL at hf
  simp only [Bool.or_eq_true, decide_eq_true_eq, Bool.and_eq_true, beq_iff_eq] at hf
  rcases hf with hf | ⟨hf, hc⟩
  · have := (moreL_spec p wi r'.length [] 0).2 (j4 _ (by omega) (by omega)) r' rfl ha
    simpa using this
  · have := e4 r' (by omega) ha hc
    simpa using this
theorem fewL_none {p : List Int → Bool} {wi : Nat} (h : fewL p wi = none) : ∀ r', Asc 0 wi r' → p r' = false := by
  intro r' ha
  unfold fewL at h
  have hl : r'.length < wi + 1 := by
    rcases ha.len with h1 | h1
    · omega
    · subst h1; simp
  have := (moreL_spec p wi r'.length [] 0).2 (tryL_none _ _ h r'.length (by omega) (by omega)) r' rfl ha
  simpa using this
theorem mem_memI {x : Int} {l : List Int} : memI x l = true ↔ x ∈ l := by
  unfold memI
  rw [List.any_eq_true]
  constructor
  · rintro ⟨y, hy, e⟩
    have : x = y := by simpa using e
    rw [this]; exact hy
  · exact fun h => ⟨x, h, by simp⟩
/-- The witnesses of a kind, as a list. -/
def someW (P : Nat → Bool) (wi : Nat) : List Int := ((List.range wi).filter P).map fun n : Nat => (n : Int)
theorem someW_asc (P : Nat → Bool) (wi : Nat) : Asc 0 wi (someW P wi) := by
  unfold someW
  rw [List.range_eq_range']
  exact Asc.filter P wi wi 0 (by omega)
theorem mem_someW {P : Nat → Bool} {wi : Nat} {x : Int} : x ∈ someW P wi ↔ 0 ≤ x ∧ x < wi ∧ P x.toNat = true := by
  unfold someW
  simp only [List.mem_map, List.mem_filter, List.mem_range]
  constructor
  · rintro ⟨n, ⟨h1, h2⟩, rfl⟩
    exact ⟨by omega, by omega, by rw [Int.toNat_natCast]; exact h2⟩
  · rintro ⟨h1, h2, h3⟩
    exact ⟨x.toNat, ⟨by omega, h3⟩, by omega⟩
theorem someW_snoc (P : Nat → Bool) (k : Nat) : someW P (k + 1) = someW P k ++ if P k then [(k : Int)] else [] := by
  unfold someW
  rw [List.range_succ, List.filter_append, List.map_append]
  congr 1
  simp only [List.filter_cons, List.filter_nil]
  split <;> rfl
theorem someW_len (P : Nat → Bool) (k : Nat) : (someW P k).length ≤ k := by
  unfold someW
  rw [List.length_map]
  exact Nat.le_trans (List.length_filter_le _ _) (by simp)

/-- A digit of a number to the base 2. -/
def bit (n i : Nat) : Bool := decide (n / 2 ^ i % 2 = 1)
theorem bit_zero (n : Nat) : bit n 0 = decide (n % 2 = 1) := by simp [bit]
theorem bit_succ (n i : Nat) : bit n (i + 1) = bit (n / 2) i := by
  unfold bit
  rw [Nat.div_div_eq_div_mul, Nat.pow_succ, Nat.mul_comm]
theorem bits_all : ∀ (wi : Nat) (P : Nat → Bool), ∃ n, n < 2 ^ wi ∧ ∀ i, i < wi → bit n i = P i := by
  intro wi
  induction wi with
  | zero => exact fun _ => ⟨0, by decide, fun i h => absurd h (by omega)⟩
  | succ wi ih =>
    intro P
    obtain ⟨n, hn, hb⟩ := ih (fun i => P (i + 1))
    refine ⟨2 * n + (if P 0 then 1 else 0), by rw [Nat.pow_succ]; split <;> omega, fun i hi => ?_⟩
    cases i with
    | zero =>
      rw [bit_zero]
      cases P 0 <;> simp <;> omega
    | succ i =>
      rw [bit_succ]
      have e : (2 * n + (if P 0 then 1 else 0)) / 2 = n := by split <;> omega
      rw [e]
      exact hb i (by omega)
theorem someW_congr {P Q : Nat → Bool} {wi : Nat} (h : ∀ i, i < wi → P i = Q i) : someW P wi = someW Q wi := by
  unfold someW
  congr 1
  exact List.filter_congr fun i hi => h i (List.mem_range.1 hi)
/-- Each list that grows is that of a set. -/
theorem asc_range : ∀ (c k wi : Nat) (e : List Int), k + c = wi → Asc k wi e → ∃ P : Nat → Bool, ((List.range' k c).filter P).map (fun n : Nat => (n : Int)) = e := by
  intro c
  induction c with
  | zero =>
    intro k wi e h ha
    refine ⟨fun _ => false, ?_⟩
    cases e with
    | nil => rfl
    | cons x e =>
      obtain ⟨h1, h2, _⟩ := ha
      omega
  | succ c ih =>
    intro k wi e h ha
    have hcong : ∀ P Q : Nat → Bool, (∀ i, k + 1 ≤ i → P i = Q i) → (List.range' (k + 1) c).filter P = (List.range' (k + 1) c).filter Q := fun P Q hPQ =>
      List.filter_congr fun i hi => hPQ i (by have := List.mem_range'_1.1 hi; omega)
    cases e with
    | nil =>
      refine ⟨fun _ => false, ?_⟩
      rw [List.filter_eq_nil_iff.2 (fun a _ => by simp)]
      rfl
    | cons x e =>
      obtain ⟨h1, h2, h3⟩ := ha
      by_cases hx : x = (k : Int)
      · subst hx
        rw [Int.toNat_natCast] at h3
        obtain ⟨P, hP⟩ := ih (k + 1) wi e (by omega) h3
        refine ⟨fun i => if i = k then true else P i, ?_⟩
        rw [List.range'_succ, List.filter_cons, if_pos (by simp), List.map_cons, hcong _ P (fun i hi => by rw [if_neg (by omega)]), hP]
      · obtain ⟨P, hP⟩ := ih (k + 1) wi (x :: e) (by omega) ⟨by omega, h2, h3⟩
        refine ⟨fun i => if i = k then false else P i, ?_⟩
        rw [List.range'_succ, List.filter_cons, if_neg (by simp), hcong _ P (fun i hi => by rw [if_neg (by omega)]), hP]
theorem asc_set {wi : Nat} {e : List Int} (h : Asc 0 wi e) : ∃ n, n < 2 ^ wi ∧ someW (bit n) wi = e := by
  obtain ⟨P, hP⟩ := asc_range wi 0 wi e (by omega) h
  obtain ⟨n, hn, hb⟩ := bits_all wi P
  refine ⟨n, hn, ?_⟩
  rw [someW_congr hb]
  unfold someW
  rw [List.range_eq_range']
  exact hP

theorem cmp_trans : ∀ {a b c : List Int}, cmpL a b < 0 → cmpL b c < 0 → cmpL a c < 0 := by
  intro a
  induction a with
  | nil =>
    intro b c h1 h2
    cases c with
    | nil =>
      cases b with
      | nil => exact h2
      | cons y b => simp [cmpL] at h2
    | cons z c => simp [cmpL]
  | cons x a ih =>
    intro b c h1 h2
    cases b with
    | nil => simp [cmpL] at h1
    | cons y b =>
      cases c with
      | nil => simp [cmpL] at h2
      | cons z c =>
        unfold cmpL at h1 h2 ⊢
        by_cases h3 : x < y
        · by_cases h4 : y < z
          · rw [if_pos (by omega)]; omega
          · rw [if_neg h4] at h2
            by_cases h5 : z < y
            · rw [if_pos h5] at h2; omega
            · rw [if_pos (by omega)]; omega
        · rw [if_neg h3] at h1
          by_cases h4 : y < x
          · rw [if_pos h4] at h1; omega
          · rw [if_neg h4] at h1
            obtain rfl : x = y := by omega
            by_cases h5 : x < z
            · rw [if_pos h5]; omega
            · rw [if_neg h5] at h2 ⊢
              by_cases h6 : z < x
              · rw [if_pos h6] at h2; omega
              · rw [if_neg h6] at h2 ⊢
                exact ih h1 h2
theorem cmp_eq : ∀ {a b : List Int}, ¬ cmpL a b < 0 → ¬ cmpL b a < 0 → a.length = b.length → a = b := by
  intro a
  induction a with
  | nil =>
    intro b _ _ h
    cases b with
    | nil => rfl
    | cons y b => cases h
  | cons x a ih =>
    intro b h1 h2 h
    cases b with
    | nil => cases h
    | cons y b =>
      unfold cmpL at h1 h2
      by_cases h3 : x < y
      · rw [if_pos h3] at h1; omega
      · by_cases h4 : y < x
        · rw [if_pos h4] at h2; omega
        · rw [if_neg h3, if_neg h4] at h1
          rw [if_neg h4, if_neg h3] at h2
          obtain rfl : x = y := by omega
          rw [ih h1 h2 (by simpa using h)]
theorem fewer_iff {a b : List Int} : fewerL a b = true ↔ a.length < b.length ∨ (a.length = b.length ∧ cmpL a b < 0) := by
  unfold fewerL
  simp
theorem fewer_trans {a b c : List Int} (h1 : fewerL a b = true) (h2 : fewerL b c = true) : fewerL a c = true := by
  rw [fewer_iff] at *
  rcases h1 with h1 | ⟨h1, k1⟩ <;> rcases h2 with h2 | ⟨h2, k2⟩
  · left; omega
  · left; omega
  · left; omega
  · right; exact ⟨by omega, cmp_trans k1 k2⟩
theorem fewer_eq {a b : List Int} (h1 : fewerL a b = false) (h2 : fewerL b a = false) : a = b := by
  rw [← Bool.not_eq_true, fewer_iff] at h1 h2
  have hl : a.length = b.length := by
    rcases Nat.lt_trichotomy a.length b.length with h | h | h
    · exact absurd (.inl h) h1
    · exact h
    · exact absurd (.inl h) h2
  exact cmp_eq (fun h => h1 (.inr ⟨hl, h⟩)) (fun h => h2 (.inr ⟨hl.symm, h⟩)) hl

/-- One set more is tried. -/
def bestStep (p : List Int → Bool) (wi : Nat) (s : Option (List Int)) (n : Nat) : Option (List Int) :=
  if (match s with | none => true | some b => fewerL (someW (bit n) wi) b) && p (someW (bit n) wi) then some (someW (bit n) wi) else s
def bestTo (p : List Int → Bool) (wi : Nat) : Nat → Option (List Int)
  | 0 => none
  | n + 1 => bestStep p wi (bestTo p wi n) n
theorem bestTo_spec (p : List Int → Bool) (wi : Nat) : ∀ n, (∀ b, bestTo p wi n = some b → (∃ m, m < n ∧ b = someW (bit m) wi) ∧ p b = true ∧ ∀ m, m < n → p (someW (bit m) wi) = true → fewerL (someW (bit m) wi) b = false) ∧
    (bestTo p wi n = none → ∀ m, m < n → p (someW (bit m) wi) = false) := by
  intro n
  induction n with
  | zero => exact ⟨fun b h => (by cases h), fun _ m h => absurd h (by omega)⟩
  | succ n ih =>
    obtain ⟨i1, i2⟩ := ih
    unfold bestTo bestStep
    rcases hb : bestTo p wi n with _ | b0
    · have h0 := i2 hb
      simp only [Bool.true_and]
      cases hp : p (someW (bit n) wi)
      · rw [if_neg (by simp)]
        refine ⟨fun b h => (by cases h), fun _ m hm => ?_⟩
        by_cases e : m = n
        · subst e; exact hp
        · exact h0 m (by omega)
      · rw [if_pos rfl]
        refine ⟨fun b h => ?_, fun h => by cases h⟩
        cases h
        refine ⟨⟨n, by omega, rfl⟩, hp, fun m hm hq => ?_⟩
        by_cases e : m = n
        · subst e
          rw [← Bool.not_eq_true, fewer_iff]
          rintro (h | ⟨_, h⟩)
          · omega
          · have : ∀ l : List Int, ¬ cmpL l l < 0 := by
              intro l
              induction l with
              | nil => simp [cmpL]
              | cons x l ih => unfold cmpL; rw [if_neg (by omega), if_neg (by omega)]; exact ih
            exact this _ h
        · rw [h0 m (by omega)] at hq; cases hq
    · obtain ⟨⟨m0, hm0, e0⟩, hp0, hall⟩ := i1 b0 hb
      simp only
      cases hc : fewerL (someW (bit n) wi) b0 && p (someW (bit n) wi)
      · rw [if_neg (by simp)]
        refine ⟨fun b h => ?_, fun h => by cases h⟩
        cases h
        refine ⟨⟨m0, by omega, e0⟩, hp0, fun m hm hq => ?_⟩
        by_cases e : m = n
        · subst e
          rw [hq, Bool.and_true] at hc
          exact hc
        · exact hall m (by omega) hq
      · rw [if_pos rfl]
        rw [Bool.and_eq_true] at hc
        refine ⟨fun b h => ?_, fun h => by cases h⟩
        cases h
        refine ⟨⟨n, by omega, rfl⟩, hc.2, fun m hm hq => ?_⟩
        rw [Bool.eq_false_iff]
        intro hf
        by_cases e : m = n
        · subst e
          have h1 := fewer_trans hf hc.1
          rw [fewer_iff] at hf
          have : ∀ l : List Int, ¬ cmpL l l < 0 := by
            intro l
            induction l with
            | nil => simp [cmpL]
            | cons x l ih => unfold cmpL; rw [if_neg (by omega), if_neg (by omega)]; exact ih
          rcases hf with h | ⟨_, h⟩
          · omega
          · exact this _ h
        · have h1 := fewer_trans hf hc.1
          rw [hall m (by omega) hq] at h1; cases h1
theorem best_is (p : List Int → Bool) (wi : Nat) : bestTo p wi (2 ^ wi) = fewL p wi := by
  obtain ⟨s1, s2⟩ := bestTo_spec p wi (2 ^ wi)
  rcases hf : fewL p wi with _ | r
  · rcases hb : bestTo p wi (2 ^ wi) with _ | b
    · rfl
    · obtain ⟨⟨m, hm, e⟩, hp, _⟩ := s1 b hb
      have := fewL_none hf b (by rw [e]; exact someW_asc _ _)
      rw [hp] at this; cases this
  · obtain ⟨f1, f2, f3⟩ := fewL_some hf
    obtain ⟨n, hn, he⟩ := asc_set f1
    rcases hb : bestTo p wi (2 ^ wi) with _ | b
    · have := s2 hb n hn
      rw [he, f2] at this; cases this
    · obtain ⟨⟨m, hm, e⟩, hp, hall⟩ := s1 b hb
      have h1 := hall n hn (by rw [he]; exact f2)
      rw [he] at h1
      have h2 : fewerL b r = false := by
        rw [Bool.eq_false_iff]
        intro h
        have := f3 b (by rw [e]; exact someW_asc _ _) h
        rw [hp] at this; cases this
      rw [fewer_eq h2 h1]
theorem best_no {p : List Int → Bool} {wi n : Nat} {s : Option (List Int)} (h : bestTo p wi n = s) (hp : p (someW (bit n) wi) = false) : bestTo p wi (n + 1) = s := by
  show bestStep p wi (bestTo p wi n) n = s
  unfold bestStep
  rw [hp, Bool.and_false, if_neg (by simp), h]
theorem best_no2 {p : List Int → Bool} {wi n : Nat} {b : List Int} (h : bestTo p wi n = some b) (hp : fewerL (someW (bit n) wi) b = false) : bestTo p wi (n + 1) = some b := by
  show bestStep p wi (bestTo p wi n) n = some b
  unfold bestStep
  rw [h]
  show (if (fewerL (someW (bit n) wi) b && p (someW (bit n) wi)) = true then some (someW (bit n) wi) else some b) = some b
  rw [hp]
  simp
theorem best_new {p : List Int → Bool} {wi n : Nat} (h : bestTo p wi n = none) (hp : p (someW (bit n) wi) = true) : bestTo p wi (n + 1) = some (someW (bit n) wi) := by
  show bestStep p wi (bestTo p wi n) n = _
  unfold bestStep
  rw [h, hp]
  rfl
theorem best_new2 {p : List Int → Bool} {wi n : Nat} {b : List Int} (h : bestTo p wi n = some b) (hf : fewerL (someW (bit n) wi) b = true) (hp : p (someW (bit n) wi) = true) : bestTo p wi (n + 1) = some (someW (bit n) wi) := by
  show bestStep p wi (bestTo p wi n) n = _
  unfold bestStep
  rw [h]
  show (if (fewerL (someW (bit n) wi) b && p (someW (bit n) wi)) = true then some (someW (bit n) wi) else some b) = _
  rw [hf, hp]
  simp
end Go.Proofs.YtjnobdcbbboeeaaGreat

namespace Go.Proofs.YtjnobdcbbboeeaaGreat
open Go Go.RowKit
set_option linter.unusedVariables false
set_option linter.unusedSimpArgs false

/-- A weighing: its month, shells, and meat. -/
structure Wg where
  mo : Int
  sl : Int
  sh : Int
  ml : Int
  mh : Int
  deriving DecidableEq, Inhabited
structure Hs where
  mo : Int
  pk : Int
  ws : List Wg
  deriving DecidableEq, Inhabited
def layWg : Lay Wg := ⟨fun w => [.int .i64 w.mo, .int .i64 w.sl, .int .i64 w.sh, .int .i64 w.ml, .int .i64 w.mh], 5, fun _ => rfl, fun x u h => by simp at h; rcases h with rfl | rfl | rfl | rfl | rfl <;> rfl⟩
def Wg.val (w : Wg) : Value := .agg #[.int .i64 w.mo, .int .i64 w.sl, .int .i64 w.sh, .int .i64 w.ml, .int .i64 w.mh]
abbrev Wgs (w : World) (A : Option Addr) (l : List Wg) : Prop := Rows layWg w A l
theorem Wgs.at_ {w : World} {A : Option Addr} {l : List Wg} {i : Nat} {x : Wg} (h : Wgs w A l) (hi : l[i]? = some x) :
    ∃ b off, A = some ⟨b, off, none⟩ ∧ w.cell? ⟨b, off + i * 5, none⟩ = some (.int .i64 x.mo) ∧ w.cell? ⟨b, off + i * 5 + 1, none⟩ = some (.int .i64 x.sl) ∧ w.cell? ⟨b, off + i * 5 + 2, none⟩ = some (.int .i64 x.sh) ∧ w.cell? ⟨b, off + i * 5 + 3, none⟩ = some (.int .i64 x.ml) ∧ w.cell? ⟨b, off + i * 5 + 4, none⟩ = some (.int .i64 x.mh) := by
  obtain ⟨b, off, hA, hc⟩ := Rows.at_ h (by decide) hi
  exact ⟨b, off, hA, hc 0 _ rfl, hc 1 _ rfl, hc 2 _ rfl, hc 3 _ rfl, hc 4 _ rfl⟩
/-- A weighing as a value (an argument of a function value). -/
def WgR (_ : World) (v : Value) (x : Wg) : Prop := v = x.val
/-- A pair of numbers as a value. -/
def RtR (_ : World) (v : Value) (x : Int × Int) : Prop := v = pval x
/-- A house in memory. -/
def hval (h : Hs) (A : Option Addr) (c : Nat) : Value := .agg #[.int .i64 h.mo, .int .i64 h.pk, .slice A h.ws.length c]
def HsR (w : World) (v : Value) (h : Hs) : Prop := ∃ A c, v = hval h A c ∧ Wgs w A h.ws ∧ h.ws.length ≤ c
theorem HsR.ext {w w' : World} {v : Value} {h : Hs} (hr : HsR w v h) (hx : Ext w w') : HsR w' v h := by
  obtain ⟨A, c, e, h1, h2⟩ := hr
  exact ⟨A, c, e, h1.ext hx, h2⟩
theorem HsR.kc {w w' : World} {v : Value} {h : Hs} (hr : HsR w v h) (hx : Kc w w') : HsR w' v h := by
  obtain ⟨A, c, e, h1, h2⟩ := hr
  exact ⟨A, c, e, h1.kc hx, h2⟩
/-- As long as a slice may be. -/
def Hs.sized (h : Hs) : Prop := h.ws.length ≤ 9223372036854775807

def Wg.lo (w : Wg) : Rt := lowR w.ml w.sh
def Wg.hi (w : Wg) : Rt := lowR w.mh w.sl

/-! ### Houses -/
def moOK (h : Hs) (m : Int) : Bool := inB m 0 (h.mo - 1)
def wgOK (h : Hs) (n : Int) : Bool := inB n 0 ((h.ws.length : Int) - 1)
def measW (w : Wg) : Bool := (inB w.sl 1 1000 && inB w.sh 1 1000) && (inB w.ml 1 1000 && inB w.mh 1 1000)
def ordW (w : Wg) : Bool := decide (w.sl ≤ w.sh) && decide (w.ml ≤ w.mh)
def checkH (h : Hs) : Int :=
  if (!inB h.mo 1 12 || decide (14 < h.ws.length)) = true then 2 else
  if (!moOK h h.pk || !h.ws.all fun w => moOK h w.mo) = true then 1 else
  if (!h.ws.all measW) = true then 3 else
  if (!h.ws.all ordW) = true then 4 else 0
def undH (h : Hs) (a b : Int) : Bool := (decide (a ≤ b) && decide (b ≤ h.pk)) || (decide (h.pk ≤ b) && decide (b ≤ a))
def wgAt (h : Hs) (i : Nat) : Wg := h.ws.getD i ⟨0, 0, 0, 0, 0⟩
def claH (h : Hs) (a b : Nat) : Bool := undH h (wgAt h a).mo (wgAt h b).mo && abv (wgAt h a).lo (wgAt h b).hi
/-- The weighings below one. -/
def belH (h : Hs) (a : Nat) : List Nat := (List.range h.ws.length).filter (claH h a)
theorem belH_lt (h : Hs) : ∀ a, ∀ b ∈ belH h a, b < h.ws.length := fun a b hb => List.mem_range.1 (List.mem_filter.1 hb).1
/-- A right house. -/
structure HsOK (h : Hs) : Prop where
  mo : 1 ≤ h.mo ∧ h.mo ≤ 12
  len : h.ws.length ≤ 14
  pk : 0 ≤ h.pk ∧ h.pk < h.mo
  wm : ∀ w ∈ h.ws, 0 ≤ w.mo ∧ w.mo < h.mo
  ms : ∀ w ∈ h.ws, (1 ≤ w.sl ∧ w.sl ≤ w.sh ∧ w.sh ≤ 1000) ∧ (1 ≤ w.ml ∧ w.ml ≤ w.mh ∧ w.mh ≤ 1000)
theorem checkH_ok {h : Hs} (e : checkH h = 0) : HsOK h := by
  unfold checkH at e
  split at e
  · cases e
  · rename_i h1
    split at e
    · cases e
    · rename_i h2
      split at e
      · cases e
      · rename_i h3
        split at e
        · cases e
        · rename_i h4
          simp only [Bool.or_eq_true, Bool.not_eq_true', decide_eq_true_eq, not_or, Bool.not_eq_false, inB_iff, moOK, List.all_eq_true, measW, ordW, Bool.and_eq_true] at h1 h2 h3 h4
          refine ⟨h1.1, by omega, by have := h2.1; omega, fun w hw => by have := h2.2 w hw; omega, fun w hw => ?_⟩
          have m1 := h3 w hw
          have m2 := h4 w hw
          omega
theorem checkH_of {h : Hs} (k : HsOK h) : checkH h = 0 := by
  obtain ⟨k1, k2, k3, k4, k5⟩ := k
  unfold checkH
  rw [if_neg, if_neg, if_neg, if_neg]
  · simp only [Bool.not_eq_true', Bool.not_eq_false, List.all_eq_true, ordW, Bool.and_eq_true, decide_eq_true_eq]
    intro w hw; have := k5 w hw; omega
  · simp only [Bool.not_eq_true', Bool.not_eq_false, List.all_eq_true, measW, Bool.and_eq_true, inB_iff]
    intro w hw; have := k5 w hw; omega
  · simp only [Bool.or_eq_true, Bool.not_eq_true', not_or, Bool.not_eq_false, List.all_eq_true, moOK, inB_iff]
    exact ⟨by omega, fun w hw => by have := k4 w hw; omega⟩
  · simp only [Bool.or_eq_true, Bool.not_eq_true', not_or, Bool.not_eq_false, inB_iff, decide_eq_true_eq]
    omega

end Go.Proofs.YtjnobdcbbboeeaaGreat

namespace Go.Proofs.YtjnobdcbbboeeaaGreat
open Go Go.RowKit
set_option linter.unusedVariables false
set_option linter.unusedSimpArgs false

theorem und_iff {h : Hs} {a b : Int} : undH h a b = true ↔ (a ≤ b ∧ b ≤ h.pk) ∨ (h.pk ≤ b ∧ b ≤ a) := by
  unfold undH; simp only [Bool.or_eq_true, Bool.and_eq_true, decide_eq_true_eq]
theorem und_trans {h : Hs} {a b c : Int} (h1 : undH h a b = true) (h2 : undH h b c = true) : undH h a c = true := by
  rw [und_iff] at *; omega
theorem und_top (h : Hs) (a : Int) : undH h a h.pk = true := by rw [und_iff]; omega
theorem und_refl (h : Hs) (a : Int) : undH h a a = true := by rw [und_iff]; omega
theorem und_anti {h : Hs} {a b : Int} (h1 : undH h a b = true) (h2 : undH h b a = true) : a = b := by
  rw [und_iff] at *; omega
section
variable {h : Hs}
theorem wgAt_mem {i : Nat} (hi : i < h.ws.length) : wgAt h i ∈ h.ws := by
  unfold wgAt
  rw [List.getD_eq_getElem?_getD, List.getElem?_eq_getElem hi]
  exact List.getElem_mem hi
theorem wgAt_get {i : Nat} (hi : i < h.ws.length) : h.ws[i]? = some (wgAt h i) := by
  unfold wgAt
  rw [List.getD_eq_getElem?_getD, List.getElem?_eq_getElem hi]; rfl
theorem mem_wgAt {v : Wg} (hv : v ∈ h.ws) : ∃ i, i < h.ws.length ∧ wgAt h i = v := by
  obtain ⟨i, hi, e⟩ := List.mem_iff_getElem.1 hv
  exact ⟨i, hi, by unfold wgAt; rw [List.getD_eq_getElem?_getD, List.getElem?_eq_getElem hi, e]; rfl⟩
theorem HsOK.low {w : Wg} (k : HsOK h) (hw : w ∈ h.ws) : LowOK w.ml w.sh (gcdZ w.ml w.sh) w.lo ∧ LowOK w.mh w.sl (gcdZ w.mh w.sl) w.hi := by
  have m := k.ms w hw
  exact ⟨lowR_ok (by omega) (by omega), lowR_ok (by omega) (by omega)⟩
theorem HsOK.pos {w : Wg} (k : HsOK h) (hw : w ∈ h.ws) : Rpos w.lo ∧ Rpos w.hi := by
  have m := k.ms w hw
  exact ⟨lowR_pos (by omega) (by omega), lowR_pos (by omega) (by omega)⟩
/-- The least ratio is at most the greatest. -/
theorem HsOK.lohi {w : Wg} (k : HsOK h) (hw : w ∈ h.ws) : leR w.lo w.hi := by
  have m := k.ms w hw
  obtain ⟨l1, l2⟩ := k.low hw
  rw [← abv_not, abv_low l1 l2, decide_eq_false_iff_not]
  have h1 := Int.mul_le_mul_of_nonneg_right (show w.ml ≤ w.mh by omega) (show 0 ≤ w.sl by omega)
  have h2 := Int.mul_le_mul_of_nonneg_left (show w.sl ≤ w.sh by omega) (show 0 ≤ w.mh by omega)
  omega
theorem claH_iff {a b : Nat} : claH h a b = true ↔ undH h (wgAt h a).mo (wgAt h b).mo = true ∧ ¬ leR (wgAt h a).lo (wgAt h b).hi := by
  unfold claH; rw [Bool.and_eq_true, abv_iff]
theorem claH_trans (k : HsOK h) {a b c : Nat} (ha : a < h.ws.length) (hb : b < h.ws.length) (hc : c < h.ws.length) (h1 : claH h a b = true) (h2 : claH h b c = true) : claH h a c = true := by
  rw [claH_iff] at *
  refine ⟨und_trans h1.1 h2.1, fun e => h1.2 ?_⟩
  have pa := (k.pos (wgAt_mem ha)).1
  have pb := k.pos (wgAt_mem hb)
  have pc := (k.pos (wgAt_mem hc)).2
  have e2 : leR (wgAt h c).hi (wgAt h b).lo := (leR_total _ _).elim (fun x => absurd x h2.2) id
  exact leR_trans pa pb.1 pb.2 (leR_trans pa pc pb.1 e e2) (k.lohi (wgAt_mem hb))
theorem claH_irr (k : HsOK h) {a : Nat} (ha : a < h.ws.length) : claH h a a = false := by
  rw [← Bool.not_eq_true, claH_iff]
  exact fun e => e.2 (k.lohi (wgAt_mem ha))
/-- What the laws call a clash. -/
def claL (h : Hs) (a b : Nat) : Bool := undH h (wgAt h a).mo (wgAt h b).mo && decide ((wgAt h b).mh * (wgAt h a).sh < (wgAt h a).ml * (wgAt h b).sl)
theorem claL_is (k : HsOK h) {a b : Nat} (ha : a < h.ws.length) (hb : b < h.ws.length) : claL h a b = claH h a b := by
  unfold claL claH
  rw [abv_low (k.low (wgAt_mem ha)).1 (k.low (wgAt_mem hb)).2]
theorem mem_bel {a b : Nat} : b ∈ belH h a ↔ b < h.ws.length ∧ claH h a b = true := by
  unfold belH
  rw [List.mem_filter, List.mem_range]
end
/-! ### The smallest sets -/
/-- Without these all others agree. -/
def covH (h : Hs) (l : List Int) : Bool := !(List.range h.ws.length).any fun a => (belH h a).any fun b => !memI (a : Int) l && !memI (b : Int) l
theorem cov_iff {h : Hs} {l : List Int} : covH h l = true ↔ ∀ a b : Nat, a < h.ws.length → b ∈ belH h a → (a : Int) ∈ l ∨ (b : Int) ∈ l := by
  unfold covH
  rw [Bool.not_eq_true', List.any_eq_false]
  constructor
  · intro h1 a b ha hb
    have h2 := h1 a (List.mem_range.2 ha)
    rw [Bool.not_eq_true, List.any_eq_false] at h2
    have h3 := h2 b hb
    rw [Bool.not_eq_true, Bool.and_eq_false_iff, Bool.not_eq_false', Bool.not_eq_false', mem_memI, mem_memI] at h3
    exact h3
  · intro h1 a ha
    rw [Bool.not_eq_true, List.any_eq_false]
    intro b hb
    rw [Bool.not_eq_true, Bool.and_eq_false_iff, Bool.not_eq_false', Bool.not_eq_false', mem_memI, mem_memI]
    exact h1 a b (List.mem_range.1 ha) hb
def overH (h : Hs) : Nat → Int := prf (belH h) h.ws.length h.ws.length
/-- As many as a proof has pairs. -/
def sizeH (h : Hs) : Nat := (matL h.ws.length (overH h)).length
theorem over_ok (h : Hs) : PrfOK (belH h) h.ws.length h.ws.length (overH h) := prf_ok (belH_lt h) _
theorem cov_ge {h : Hs} (k : HsOK h) {l : List Int} (hl : ∀ x ∈ l, 0 ≤ x) (hc : covH h l = true) : sizeH h ≤ l.length := by
  have htr : ∀ a b c, b ∈ belH h a → c ∈ belH h b → c ∈ belH h a := fun a b c hb hc => by
    by_cases ha : a < h.ws.length
    · rw [mem_bel] at *
      exact ⟨hc.1, claH_trans k ha hb.1 hc.1 hb.2 hc.2⟩
    · -- beyond the weighings nothing has a month of its own; a default weighing
      rw [mem_bel] at *
      refine ⟨hc.1, ?_⟩
      have h1 := hb.2
      rw [claH_iff] at h1 ⊢
      have h2 := hc.2
      rw [claH_iff] at h2
      refine ⟨und_trans h1.1 h2.1, fun e => ?_⟩
      have hz : (wgAt h a).lo = (0, 0) := by
        unfold wgAt
        rw [List.getD_eq_getElem?_getD, List.getElem?_eq_none (by omega)]
        rfl
      refine h1.2 ?_
      rw [hz]
      unfold leR
      simp
  have := cover_ge (over_ok h) htr (l.map Int.toNat) (fun a b ha hb => by
    rcases cov_iff.1 hc a b ha hb with x | x
    · exact .inl (List.mem_map.2 ⟨_, x, Int.toNat_natCast a⟩)
    · exact .inr (List.mem_map.2 ⟨_, x, Int.toNat_natCast b⟩))
  rw [List.length_map] at this
  exact this
theorem cov_ex (h : Hs) : ∃ l, Asc 0 h.ws.length l ∧ covH h l = true ∧ l.length ≤ sizeH h := by
  obtain ⟨p, h1, h2⟩ := cover_le (over_ok h)
  refine ⟨someW p h.ws.length, someW_asc p _, cov_iff.2 fun a b ha hb => ?_, ?_⟩
  · rcases h1 a b ha hb with x | x
    · exact .inl (mem_someW.2 ⟨by omega, by omega, by rw [Int.toNat_natCast]; exact x⟩)
    · have := (mem_bel.1 hb).1
      exact .inr (mem_someW.2 ⟨by omega, by omega, by rw [Int.toNat_natCast]; exact x⟩)
  · unfold someW
    rw [List.length_map]; exact h2
theorem asc_pos {n : Nat} {l : List Int} (h : Asc 0 n l) : ∀ x ∈ l, 0 ≤ x := fun x hx => by have := h.mem x hx; omega
/-- The smallest set, the first in lexicographic order. -/
def fewH (h : Hs) : List Int := (moreL (covH h) h.ws.length (sizeH h) [] 0).getD []
theorem few_is {h : Hs} (k : HsOK h) : moreL (covH h) h.ws.length (sizeH h) [] 0 = some (fewH h) ∧ fewL (covH h) h.ws.length = some (fewH h) ∧ Asc 0 h.ws.length (fewH h) ∧ covH h (fewH h) = true ∧ (fewH h).length = sizeH h ∧ ∀ l, Asc 0 h.ws.length l → fewerL l (fewH h) = true → covH h l = false := by
  obtain ⟨l0, a1, a2, a3⟩ := cov_ex h
  cases e : fewL (covH h) h.ws.length with
  | none => rw [fewL_none e l0 a1] at a2; cases a2
  | some r =>
    obtain ⟨b1, b2, b3⟩ := fewL_some e
    have hge := cov_ge k (asc_pos b1) b2
    have hle : r.length ≤ sizeH h := by
      refine Nat.not_lt.1 fun hlt => ?_
      have := b3 l0 a1 (fewer_iff.2 (.inl (by omega)))
      rw [a2] at this; cases this
    have hr : r.length = sizeH h := by omega
    have hm : moreL (covH h) h.ws.length (sizeH h) [] 0 = some r := by
      unfold fewL at e
      obtain ⟨j, j1, j2, j3, j4⟩ := tryL_some _ _ e
      have hj : j = sizeH h := by
        obtain ⟨e1, q1, q2, -⟩ := (moreL_spec (covH h) h.ws.length j [] 0).1 r j3
        rw [← hr, q1, List.nil_append, q2]
      rw [← hj]; exact j3
    have hf : fewH h = r := by unfold fewH; rw [hm]; rfl
    rw [hf]
    exact ⟨hm, rfl, b1, b2, hr, b3⟩
end Go.Proofs.YtjnobdcbbboeeaaGreat

namespace Go.Proofs.YtjnobdcbbboeeaaGreat
open Go Go.RowKit
set_option linter.unusedVariables false
set_option linter.unusedSimpArgs false

def lowsH (h : Hs) (m : Int) : List Rt := (h.ws.filter fun w => undH h w.mo m).map Wg.lo
def upsH (h : Hs) (m : Int) : List Rt := (h.ws.filter fun w => undH h m w.mo).map Wg.hi
def agrH (h : Hs) : Bool := (List.range h.ws.length).all fun a => (List.range h.ws.length).all fun b => !claH h a b
def minR (r : Rt) : List Rt → Rt
  | [] => r
  | q :: l => minR (if abv r q then q else r) l
def hdR : List Rt → Rt
  | [] => (0, 0)
  | r :: _ => r
def bndE (h : Hs) (m : Int) : Int :=
  if checkH h ≠ 0 then checkH h else if moOK h m = false then 1 else if agrH h = false then 7 else if (lowsH h m).length = 0 ∨ (upsH h m).length = 0 then 6 else 0
def bndL (h : Hs) (m : Int) : Rt := if bndE h m = 0 then greatL (hdR (lowsH h m)) (lowsH h m).tail else (0, 0)
def bndU (h : Hs) (m : Int) : Rt := if bndE h m = 0 then minR (hdR (upsH h m)) (upsH h m).tail else (0, 0)
def ceilR (r : Rt) (s : Int) : Int := (r.1 * s + r.2 - 1).tdiv r.2
def floorR (r : Rt) (s : Int) : Int := (r.1 * s).tdiv r.2
def meatE (h : Hs) (m s : Int) : Int :=
  if checkH h ≠ 0 then checkH h else if inB s 0 1000 = false then 3 else if bndE h m ≠ 0 then bndE h m else if floorR (bndU h m) s < ceilR (bndL h m) s then 8 else 0
def meatL (h : Hs) (m s : Int) : Int := if meatE h m s = 0 then ceilR (bndL h m) s else 0
def meatU (h : Hs) (m s : Int) : Int := if meatE h m s = 0 then floorR (bndU h m) s else 0
def keptE (h : Hs) (m s x : Int) : Int := if checkH h ≠ 0 then checkH h else if inB x 0 1000 = false then 3 else meatE h m s
def keptV (h : Hs) (m s x : Int) : Int := if keptE h m s x = 0 then max 0 (meatL h m s - x) else 0
/-- The pairs that clash, in order. -/
def claP (h : Hs) : List (Int × Int) := (List.range h.ws.length).flatMap fun a => (belH h a).map fun (b : Nat) => ((a : Int), (b : Int))
def claE (h : Hs) : Int := if checkH h ≠ 0 then checkH h else match claP h with | [] => 6 | _ :: _ => 0
def claV (h : Hs) : Int × Int := if checkH h ≠ 0 then (0, 0) else match claP h with | [] => (0, 0) | p :: _ => p
def undE (h : Hs) (a b : Int) : Int := if checkH h ≠ 0 then checkH h else if moOK h a && moOK h b then 0 else 1
def undV (h : Hs) (a b : Int) : Bool := decide (undE h a b = 0) && undH h a b
def wgE (h : Hs) (n : Int) : Int := if checkH h ≠ 0 then checkH h else if wgOK h n then 0 else 1
/-- Without some weighings. -/
def witE (h : Hs) : List Int → List Int → Int
  | _, [] => 0
  | g, n :: l => if wgOK h n = false then 1 else if memI n g then 5 else witE h (n :: g) l
def wthE (h : Hs) (l : List Int) : Int := if checkH h ≠ 0 then checkH h else witE h [] l
def keepW (h : Hs) (l : List Int) : List Wg := ((List.range h.ws.length).filter fun (i : Nat) => !memI (i : Int) l).map (wgAt h)
def wthV (h : Hs) (l : List Int) : Hs := if wthE h l = 0 then { h with ws := keepW h l } else ⟨0, 0, []⟩
/-- What pairs prove. -/
def prvE (h : Hs) (U W : List Int) : List (Int × Int) → Int
  | [] => 0
  | p :: l => if (wgOK h p.1 && wgOK h p.2) = false then 1 else if claH h p.1.toNat p.2.toNat = false then 8 else if (memI p.1 U || memI p.2 W) = true then 5 else prvE h (p.1 :: U) (p.2 :: W) l
def provE (h : Hs) (l : List (Int × Int)) : Int := if checkH h ≠ 0 then checkH h else prvE h [] [] l
def provV (h : Hs) (l : List (Int × Int)) : Int := if provE h l = 0 then (l.length : Int) else 0
def fewE (h : Hs) : Int := checkH h
def fewV (h : Hs) : List Int := if checkH h ≠ 0 then [] else fewH h
/-! ### The example -/
def fourH : Hs := ⟨5, 2, [⟨0, 100, 100, 10, 12⟩, ⟨1, 100, 100, 8, 9⟩, ⟨2, 50, 60, 12, 12⟩, ⟨4, 80, 80, 20, 22⟩]⟩
def lessH : Hs := ⟨5, 2, [⟨1, 100, 100, 8, 9⟩, ⟨4, 80, 80, 20, 22⟩]⟩
theorem four_check : checkH fourH = 0 ∧ checkH lessH = 0 := by decide +kernel
theorem four_few : fewV fourH = [0, 2] := by decide +kernel
theorem four_cla : claE fourH = 0 ∧ claV fourH = (0, 1) := by decide +kernel
theorem four_prov : provE fourH [(3, 2), (0, 1)] = 0 ∧ provV fourH [(3, 2), (0, 1)] = 2 := by decide +kernel
theorem four_less : wthE fourH [0, 2] = 0 ∧ wthV fourH [0, 2] = lessH := by decide +kernel
theorem four_meat : meatE lessH 4 90 = 0 ∧ meatL lessH 4 90 = 23 ∧ meatU lessH 4 90 = 24 := by decide +kernel
theorem four_bnd : bndE lessH 4 = 0 ∧ bndL lessH 4 = (1, 4) ∧ bndU lessH 4 = (11, 40) ∧ bndE lessH 2 = 6 := by decide +kernel
end Go.Proofs.YtjnobdcbbboeeaaGreat
