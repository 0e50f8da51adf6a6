/- Words for memory that every text of mine uses: 'Ext' (only new blocks, old ones as they were), 'Rd' (a slice's address holds these cells), function values. No program stands here. Numbers in bounds, matrices of eight by eight, the least of a list. No program stands here. The data of layer 5 as plain records, and how they lie in memory. No program stands here. Sets of numbers: the first list of the fewest numbers for which something holds, by growing lists or by all sets. No program stands here. What layer 5 computes, as plain functions: the error of a fog, distances. No program stands here. The plain law of distances: what is computed over one place after the other is the least number of steps. No program stands here. What layer 5 computes of walks, as plain functions: how many go on from a place, how many there are, where a cart can be. No program stands here. The reference's way to count walks: how many come to each place. It counts the same, and tells the same places. No program stands here. What the sets of the reference mean: reports named by bits, and those named by a list. No program stands here. -/
import Derived.WalkKit
import Derived.Handy
import Derived.WalkLawsBesides
import Derived.WalkSpells
import Derived.Deep.LoopGhost
import Derived.Deep.QuietTactic
import Derived.BigQuiet
import Derived.Shelf.Abstract
import Derived.Maps.AppendAt
import Derived.Laws.EntriesVeiled
namespace Go.Proofs.YtlonpgbapiemcaaGreat
open Go Go.RowKit
set_option linter.unusedVariables false
set_option linter.unusedSimpArgs false

/-- A fact kept from the walk. -/
theorem hid {p : Prop} (h : p) : Hid p := h

/-- w' is w with new blocks; what was there is as it was. -/
def Ext (w w' : World) : Prop := Below w.heap.size w w'
theorem Ext.refl (w : World) : Ext w w := Below.refl _ _
theorem Ext.below {w w' : World} (h : Ext w w') : Below w.heap.size w w' := h
theorem Ext.size {w w' : World} (h : Ext w w') : w.heap.size ≤ w'.heap.size := Below.size h
theorem Ext.trans {a b c : World} (h : Ext a b) (k : Ext b c) : Ext a c := Below.trans h (Below.mono k (Below.size h))
theorem Ext.drew {a w : World} (h : Ext a w) : Ext a w.drew := Below.drew h
theorem Ext.drewN {a w : World} (h : Ext a w) (n : Nat) : Ext a (w.drewN n) := by obtain ⟨h1, h2, h3, h4, h5⟩ := h; exact ⟨h1, h2, h3, h4, h5⟩
theorem Ext.alloc {a w : World} (h : Ext a w) (o : Obj) : Ext a (w.alloc o) := Below.alloc h (Below.size h) o
theorem Ext.setCell {a w : World} (h : Ext a w) {p : Addr} (hp : a.heap.size ≤ p.block) (u : Value) : Ext a (w.setCell p u) := Below.setCell h hp u
theorem Ext.of_below {B : Nat} {a w : World} (h : Below B a w) (hB : a.heap.size ≤ B) : Ext a w := Below.mono h hB
theorem Ext.grown {a w w' : World} {row : Option Nat} (h : Ext a w) (hg : w.grownBy w' row) (hr : ∀ k, row = some k → a.heap.size ≤ k) : Ext a w' := Below.grown h hg (Below.size h) hr
theorem Ext.cell {w w' : World} (h : Ext w w') {p : Addr} {u : Value} (hp : w.cell? p = some u) : w'.cell? p = some u :=
  (Below.cell h (World.block_lt_of_cell? w p hp)).trans hp
theorem Ext.alloc_cell {o : Obj} {a w : World} (h : Ext (a.alloc o) w) : Ext a w := Ext.trans (Ext.alloc (Ext.refl a) _) h

/-- All cells of w are there in w' as they were (whatever became of what is no cells). -/
def Kc (w w' : World) : Prop := ∀ (p : Addr) (u : Value), w.cell? p = some u → w'.cell? p = some u
theorem Ext.kc {w w' : World} (h : Ext w w') : Kc w w' := fun _ _ hp => h.cell hp
theorem Kc.refl (w : World) : Kc w w := fun _ _ h => h
theorem Kc.trans {a b c : World} (h : Kc a b) (k : Kc b c) : Kc a c := fun p u hp => k p u (h p u hp)
theorem Kc.alloc {a w : World} (h : Kc a w) (o : Obj) : Kc a (w.alloc o) := h.trans (Ext.alloc (Ext.refl w) o).kc
theorem Kc.cell {w w' : World} (h : Kc w w') {p : Addr} {u : Value} (hp : w.cell? p = some u) : w'.cell? p = some u := h p u hp
/-- All cells but those of block D are there as they were. -/
def Cel (D : Nat) (w w' : World) : Prop := w.heap.size ≤ w'.heap.size ∧ ∀ (p : Addr) (u : Value), p.block ≠ D → w.cell? p = some u → w'.cell? p = some u
theorem Cel.refl (D : Nat) (w : World) : Cel D w w := ⟨Nat.le_refl _, fun _ _ _ h => h⟩
theorem Cel.trans {D : Nat} {a b c : World} (h : Cel D a b) (k : Cel D b c) : Cel D a c := ⟨Nat.le_trans h.1 k.1, fun p u hp hu => k.2 p u hp (h.2 p u hp hu)⟩
theorem Ext.cel {D : Nat} {w w' : World} (h : Ext w w') : Cel D w w' := ⟨h.size, fun _ _ _ hp => h.cell hp⟩
theorem Cel.cell {D : Nat} {w w' : World} (h : Cel D w w') {p : Addr} {u : Value} (hp : w.cell? p = some u) (hne : p.block ≠ D) : w'.cell? p = some u := h.2 p u hne hp
theorem Kc.cel {D : Nat} {a w w' : World} (h : Kc a w) (hD : a.heap.size ≤ D) (k : Cel D w w') : Kc a w' :=
  fun p u hp => k.2 p u (fun e => by have := World.block_lt_of_cell? a p hp; omega) (h p u hp)

/-- The slice address A holds the cells xs. -/
def Rd (w : World) (A : Option Addr) (xs : List Value) : Prop :=
  xs = [] ∨ ∃ b off, A = some ⟨b, off, none⟩ ∧ ∀ j u, xs[j]? = some u → w.cell? ⟨b, off + j, none⟩ = some u
theorem Rd.nil (w : World) (A : Option Addr) : Rd w A [] := .inl rfl
theorem Rd.kc {w w' : World} {A : Option Addr} {xs : List Value} (h : Rd w A xs) (hx : Kc w w') : Rd w' A xs := by
  rcases h with h | ⟨b, off, hA, hc⟩
  · exact .inl h
  · exact .inr ⟨b, off, hA, fun j u hu => hx _ _ (hc j u hu)⟩
theorem Rd.ext {w w' : World} {A : Option Addr} {xs : List Value} (h : Rd w A xs) (hx : Ext w w') : Rd w' A xs := h.kc hx.kc
theorem Rd.at_ {w : World} {A : Option Addr} {xs : List Value} (h : Rd w A xs) (hne : xs ≠ []) :
    ∃ b off, A = some ⟨b, off, none⟩ ∧ ∀ j u, xs[j]? = some u → w.cell? ⟨b, off + j, none⟩ = some u := by
  rcases h with h | h
  · exact absurd h hne
  · exact h
theorem Rd.of_own {w : World} {base e size n c : Nat} {A : Option Addr} {xs : List Value} (h : w.ownsRow base e size (.slice A n c) n xs) : Rd w A xs := by
  rcases h.2 with ⟨hv, hn⟩ | ⟨g, cap, cur, hv, hg, hh, hrest⟩
  · subst hn
    exact .inl (List.eq_nil_of_length_eq_zero (by simpa using h.1))
  · injection hv with hA _ _
    subst hA
    refine .inr ⟨g, 0, rfl, fun j u hu => ?_⟩
    have := h.cells (g := g) rfl j u hu
    unfold Addr.add at this
    split at this
    · rename_i h0; subst h0; simpa using this
    · simpa using this
theorem Rd.pre_ {w : World} {A : Option Addr} {xs ys : List Value} (h : Rd w A (xs ++ ys)) : Rd w A xs := by
  rcases h with h | ⟨b, off, hA, hc⟩
  · exact .inl (List.append_eq_nil_iff.1 h).1
  · refine .inr ⟨b, off, hA, fun j u hu => hc j u ?_⟩
    rw [List.getElem?_append_left (by rcases List.getElem?_eq_some_iff.1 hu with ⟨h1, _⟩; exact h1)]
    exact hu

/-- Numbers in a slice. -/
def Ints (w : World) (A : Option Addr) (l : List Int) : Prop := Rd w A (l.map (.int .i64))
theorem Ints.ext {w w' : World} {A : Option Addr} {l : List Int} (h : Ints w A l) (hx : Ext w w') : Ints w' A l := Rd.ext h hx
theorem Ints.kc {w w' : World} {A : Option Addr} {l : List Int} (h : Ints w A l) (hx : Kc w w') : Ints w' A l := Rd.kc h hx
theorem Ints.nil (w : World) (A : Option Addr) : Ints w A [] := Rd.nil w A
theorem Ints.at_ {w : World} {A : Option Addr} {l : List Int} {k : Nat} {x : Int} (h : Ints w A l) (hk : l[k]? = some x) :
    ∃ b off, A = some ⟨b, off, none⟩ ∧ w.cell? ⟨b, off + k, none⟩ = some (.int .i64 x) := by
  obtain ⟨b, off, hA, hc⟩ := Rd.at_ h (by intro e; have := congrArg List.length e; simp at this; subst this; simp at hk)
  exact ⟨b, off, hA, hc k _ (by simp [hk])⟩

/-- A function value that answers p of what stands as v (v reads as x: R). It may lay new blocks. -/
def FnP {α : Type} (P : Program) (fv : Value) (w : World) (R : World → Value → α → Prop) (S : α → Prop) (p : α → Bool) : Prop :=
  ∃ (g : Nat) (fst lb : Array Value), fv = .func (.func g) fst lb ∧ (∀ args W, (callFunc g args).run P W = .ok (.enter g args) W) ∧
    ∀ (x : α) (v : Value) (W : World), S x → Kc w W → R W v x → Calls P g (fst.push v ++ lb) W fun e W' => e = .returned (.bool (p x)) ∧ Ext W W'
theorem FnP.ext {α : Type} {P : Program} {fv : Value} {w w' : World} {R : World → Value → α → Prop} {S : α → Prop} {p : α → Bool} (h : FnP P fv w R S p) (hx : Ext w w') : FnP P fv w' R S p := by
  obtain ⟨g, fst, lb, rfl, he, hc⟩ := h
  exact ⟨g, fst, lb, rfl, he, fun x v W hs hW hR => hc x v W hs (hx.kc.trans hW) hR⟩

theorem FnP.kc {α : Type} {P : Program} {fv : Value} {w w' : World} {R : World → Value → α → Prop} {S : α → Prop} {p : α → Bool} (h : FnP P fv w R S p) (hx : Kc w w') : FnP P fv w' R S p := by
  obtain ⟨g, fst, lb, rfl, he, hc⟩ := h
  exact ⟨g, fst, lb, rfl, he, fun x v W hs hW hR => hc x v W hs (hx.trans hW) hR⟩

/-- The first place at which p holds, counted from i; -1 if there is none. -/
def idxF {α : Type} (p : α → Bool) : List α → Nat → Int
  | [], _ => -1
  | x :: l, i => if p x then (i : Int) else idxF p l (i + 1)
theorem idxF_nonneg {α : Type} (p : α → Bool) (l : List α) : ∀ i, decide (0 ≤ idxF p l i) = l.any p := by
  induction l with
  | nil => intro i; simp [idxF]
  | cons x l ih =>
    intro i
    unfold idxF
    cases h : p x
    · simp [h, ih (i + 1)]
    · simp [h]
theorem idxF_drop {α : Type} (p : α → Bool) (l : List α) (k : Nat) (x : α) (h : l[k]? = some x) : idxF p (l.drop k) k = if p x then (k : Int) else idxF p (l.drop (k + 1)) (k + 1) := by
  have hk : k < l.length := (List.getElem?_eq_some_iff.1 h).1
  rw [List.drop_eq_getElem_cons hk]
  have : l[k] = x := (List.getElem?_eq_some_iff.1 h).2
  rw [this]
  rfl
theorem idxF_end {α : Type} (p : α → Bool) (l : List α) (k : Nat) (h : l.length ≤ k) (i : Nat) : idxF p (l.drop k) i = -1 := by
  rw [List.drop_eq_nil_of_le h]; rfl
theorem all_any {α : Type} (p : α → Bool) (l : List α) : l.all p = !(l.any fun x => !p x) := by
  induction l with
  | nil => rfl
  | cons x l ih => simp only [List.all_cons, List.any_cons, ih]; cases p x <;> simp
theorem mem_of_get {α : Type} {l : List α} {k : Nat} {x : α} (h : l[k]? = some x) : x ∈ l := List.mem_of_getElem? h
/-- No condition on the elements. -/
def anyx {α : Type} (_ : α) : Prop := True
theorem anyx_all {α : Type} (l : List α) : ∀ x, x ∈ l → anyx x := fun _ _ => trivial
theorem ints_len (l : List Int) : (l.map (Value.int .i64)).length = l.length * 1 := by simp
theorem ints_one (l : List Int) : ∀ u ∈ l.map (Value.int .i64), u.oneCell' = true := by intro u hu; simp at hu; obtain ⟨x, _, rfl⟩ := hu; rfl
theorem get_of_lt {α : Type} (l : List α) (k : Nat) (h : k < l.length) : ∃ x, l[k]? = some x := ⟨l[k], List.getElem?_eq_getElem h⟩
theorem ret_of {v v' : Value} (h : v = v') : Ending.returned v = .returned v' := by rw [h]
theorem bool_of {a b : Bool} (h : a = b) : Value.bool a = .bool b := by rw [h]
theorem int_of {k : IntKind} {a b : Int} (h : a = b) : Value.int k a = .int k b := by rw [h]

/-! ### append onto a row of the call's own -/
/-- What append asks of the slice's type t over the element type e. -/
structure ElemOK (P : Program) (t e : TypeId) (size bytes : Nat) : Prop where
  under : P.underlying t = some (.slice e)
  info : ∃ i z, P.info? e = some i ∧ i.zero = some z ∧ i.size = size ∧ i.bytes = bytes ∧ z.cells.size = size
  pos : 0 < size
  bpos : 0 < bytes

theorem own_nil (w : World) (base : Nat) (e : TypeId) (size : Nat) : w.ownsRow base e size (.slice none 0 0) 0 [] := World.ownsRow_nil w base e size
theorem own_slice {w : World} {base e size n : Nat} {v : Value} {xs : List Value} (h : w.ownsRow base e size v n xs) : ∃ A c, v = .slice A n c := by
  rcases h.2 with ⟨rfl, rfl⟩ | ⟨g, cap, cur, rfl, _⟩
  · exact ⟨_, _, rfl⟩
  · exact ⟨_, _, rfl⟩
theorem own_len {w : World} {base e size n : Nat} {v : Value} {xs : List Value} (h : w.ownsRow base e size v n xs) : xs.length = n * size := h.1
theorem own_below {w w' : World} {base e size n : Nat} {v : Value} {xs : List Value} (h : w.ownsRow base e size v n xs) (hb : Ext w w') : w'.ownsRow base e size v n xs := by
  refine ⟨h.1, ?_⟩
  rcases h.2 with h | ⟨g, cap, cur, rfl, h1, h2, h3⟩
  · exact .inl h
  · exact .inr ⟨g, cap, cur, rfl, h1, (Below.block hb g (Array.getElem?_eq_some_iff.1 h2).1).trans h2, h3⟩
theorem own_base {w : World} {base base' e size n : Nat} {v : Value} {xs : List Value} (h : w.ownsRow base e size v n xs) (hb : base' ≤ base) : w.ownsRow base' e size v n xs := by
  refine ⟨h.1, ?_⟩
  rcases h.2 with h | ⟨g, cap, cur, rfl, h1, h2, h3⟩
  · exact .inl h
  · exact .inr ⟨g, cap, cur, rfl, by omega, h2, h3⟩

theorem run_append_rd {P : Program} (w : World) (t ty e : TypeId) (size bytes : Nat) (E : ElemOK P t e size bytes) (base : Nat)
    (v : Value) (n : Nat) (xs : List Value) (hown : w.ownsRow base e size v n xs) (A : Option Addr) (m c : Nat) (news : List Value) (hl : news.length = m * size) (hr : Rd w A news)
    (h1 : ∀ u ∈ news, u.oneCell' = true) (hbytes : (n + m) * bytes ≤ 140737488355328) (hbase : base ≤ w.heap.size) :
    ∃ v' w', (Builtin.append_ #[t, t] ty #[v, .slice A m c]).run P w = .ok v' w' ∧ w'.ownsRow base e size v' (n + m) (xs ++ news) ∧ w.grownBy w' v.ownBlock ∧
      (v' = .slice none 0 0 ↔ v = .slice none 0 0 ∧ m = 0) ∧ (v'.ownBlock = v.ownBlock ∨ v'.ownBlock = some w.heap.size) := by
  obtain ⟨ht, ⟨i, z, hi, hz, hsize, hby, hzs⟩, hsz, hbp⟩ := E
  have h63 : n + m ≤ maxLen := by
    have := Nat.le_mul_of_pos_right (n + m) hbp
    simp only [maxLen]; omega
  rcases A with _ | ad
  · have hn : news = [] := by
      rcases hr with h | ⟨b, off, h, _⟩
      · exact h
      · cases h
    subst hn
    have hm : m = 0 := by
      rcases Nat.eq_zero_or_pos m with h0 | h0
      · exact h0
      · have := Nat.mul_pos h0 hsz; simp at hl; omega
    subst hm
    refine ⟨v, w, ?_, by simpa using hown, World.grownBy.refl w _, by simp, .inl rfl⟩
    rcases hown.2 with ⟨rfl, rfl⟩ | ⟨g, cap, cur, rfl, _, _, hnc, _⟩
    · simp [Builtin.append_, run_underlying ht, sizeOf, typeInfo, hi, Builtin.lenOf, Builtin.firstCells]
    · simp [Builtin.append_, run_underlying ht, sizeOf, typeInfo, hi, Builtin.lenOf, Builtin.firstCells, hnc, storeCells]
  · have hcells : ∀ j u, news[j]? = some u → w.cell? (ad.add j) = some u := by
      intro j u hu
      rcases hr with h | ⟨b, off, h, hc⟩
      · subst h; simp at hu
      · cases h
        rw [Addr.add_lit]
        exact hc j u hu
    exact run_append_own_at (P := P) w base t ty e i z size bytes ht hi hz hsize hby hzs hsz v n xs hown ad m c news hl hcells h1 h63 hbytes hbase

theorem wp_append_rd {P : Program} (w : World) {o : Oper} {a : Act} {K : Act → World → Prop} {Q : Exit → Act → World → Prop} (s x : Operand) (t : TypeId)
    (ho : o.op = .call { callee := .builtin .append, args := #[s, x], argTypes := #[t, t] }) {e : TypeId} {size bytes : Nat} (E : ElemOK P t e size bytes) (base : Nat)
    (v : Value) (n : Nat) (xs : List Value) (hs : a.eval s = v) (hown : w.ownsRow base e size v n xs) (A : Option Addr) (m c : Nat) (news : List Value) (hx : a.eval x = .slice A m c)
    (hl : news.length = m * size) (hr : Rd w A news) (h1 : ∀ u ∈ news, u.oneCell' = true) (hbytes : (n + m) * bytes ≤ 140737488355328) (hbase : base ≤ w.heap.size)
    (h : ∀ A' c' w', w'.ownsRow base e size (.slice A' (n + m) c') (n + m) (xs ++ news) → Below base w w' → w.grownBy w' v.ownBlock → (A' = none ↔ v = .slice none 0 0 ∧ m = 0) → K (a.put o.dst (.slice A' (n + m) c')) w') : o.wp P a w K Q := by
  obtain ⟨v', w', hrun, h2, h3, h4, h5⟩ := run_append_rd (P := P) w t o.type e size bytes E base v n xs hown A m c news hl hr h1 hbytes hbase
  obtain ⟨A', c', rfl⟩ := own_slice h2
  unfold Oper.wp execOp
  simp only [ho, resolve, invoke, builtin, Sem.run_bind, Sem.run_pure, Result.andThen_ok, List.map_toArray, List.map_cons, List.map_nil, hs, hx, hrun]
  have hB : Below base w w' := (Below.refl base w).grown h3 hbase (fun k hk => (hown.lt k hk).1)
  refine h A' c' w' h2 hB h3 ?_
  rw [← h4]
  constructor
  · rintro rfl
    rcases h2.2 with ⟨h, _⟩ | ⟨g, cap, cur, h, _⟩
    · exact h
    · cases h
  · intro h; injection h

theorem wpList_append_rd {P : Program} (w : World) {ops : Array Oper} {rest : List Oper} {o : Oper} {a : Act} {Q : Exit → Act → World → Prop} (hgd : o.guard = none) (s x : Operand) (t : TypeId)
    (ho : o.op = .call { callee := .builtin .append, args := #[s, x], argTypes := #[t, t] }) {e : TypeId} {size bytes : Nat} (E : ElemOK P t e size bytes) (base : Nat)
    (v : Value) (n : Nat) (xs : List Value) (hs : a.eval s = v) (hown : w.ownsRow base e size v n xs) (A : Option Addr) (m c : Nat) (news : List Value) (hx : a.eval x = .slice A m c)
    (hl : news.length = m * size) (hr : Rd w A news) (h1 : ∀ u ∈ news, u.oneCell' = true) (hbytes : (n + m) * bytes ≤ 140737488355328) (hbase : base ≤ w.heap.size)
    (h : ∀ A' c' w', w'.ownsRow base e size (.slice A' (n + m) c') (n + m) (xs ++ news) → Below base w w' → w.grownBy w' v.ownBlock → (A' = none ↔ v = .slice none 0 0 ∧ m = 0) → wpList P ops Q rest (a.put o.dst (.slice A' (n + m) c')) w') : wpList P ops Q (o :: rest) a w :=
  wpList_plain hgd fun _ hK => wp_append_rd w s x t ho E base v n xs hs hown A m c news hx hl hr h1 hbytes hbase fun A' c' w' h2 h3 h4 h5 => hK _ _ (h A' c' w' h2 h3 h4 h5)
end Go.Proofs.YtlonpgbapiemcaaGreat

namespace Go.Proofs.YtlonpgbapiemcaaGreat
open Go Go.RowKit
set_option linter.unusedVariables false
set_option linter.unusedSimpArgs false

/-- A number as an argument of a function value. -/
def IntR (_ : World) (v : Value) (x : Int) : Prop := v = .int .i64 x
def inB (n lo hi : Int) : Bool := decide (lo ≤ n) && decide (n ≤ hi)
theorem inB_iff {n lo hi : Int} : inB n lo hi = true ↔ lo ≤ n ∧ n ≤ hi := by simp [inB]
theorem inB_not {n lo hi : Int} : inB n lo hi = false ↔ ¬ (lo ≤ n ∧ n ≤ hi) := by rw [← inB_iff]; cases inB n lo hi <;> simp

abbrev Mat := Nat → Nat → Int
def gl (g : Mat) : List Int := (List.range 64).map fun i => g (i / 8) (i % 8)
def upd (g : Mat) (a b : Nat) (x : Int) : Mat := fun p q => if p = a ∧ q = b then x else g p q
theorem gl_len (g : Mat) : (gl g).length = 64 := by simp [gl]
theorem gl_get (g : Mat) (a b : Nat) (ha : a < 8) (hb : b < 8) : (gl g)[a * 8 + b]? = some (g a b) := by
  have h : a * 8 + b < 64 := by omega
  simp only [gl, List.getElem?_map, List.getElem?_range h, Option.map_some]
  congr 2 <;> omega
theorem gl_congr {g g' : Mat} (h : ∀ a b, a < 8 → b < 8 → g a b = g' a b) : gl g = gl g' := by
  unfold gl
  apply List.map_congr_left
  intro i hi
  simp at hi
  exact h _ _ (by omega) (by omega)
theorem gl_eq {g g' : Mat} (h : gl g = gl g') (a b : Nat) (ha : a < 8) (hb : b < 8) : g a b = g' a b := by
  have h1 := gl_get g a b ha hb
  rw [h, gl_get g' a b ha hb] at h1
  exact (Option.some.inj h1).symm
theorem gl_upd (g : Mat) (a b : Nat) (x : Int) (ha : a < 8) (hb : b < 8) : gl (upd g a b x) = (gl g).set (a * 8 + b) x := by
  apply List.ext_getElem?
  intro i
  rw [List.getElem?_set]
  rcases Nat.lt_or_ge i 64 with hi | hi
  · have e : i = i / 8 * 8 + i % 8 := by omega
    have h1 := gl_get (upd g a b x) (i / 8) (i % 8) (by omega) (by omega)
    have h2 := gl_get g (i / 8) (i % 8) (by omega) (by omega)
    rw [← e] at h1 h2
    rw [h1, h2, gl_len]
    unfold upd
    by_cases hab : a * 8 + b = i
    · rw [if_pos (by omega), if_pos hab, if_pos (by omega)]
    · rw [if_neg (by omega), if_neg hab]
  · rw [List.getElem?_eq_none (by rw [gl_len]; omega), if_neg (by omega), List.getElem?_eq_none (by rw [gl_len]; omega)]

def Eq8 (g g' : Mat) : Prop := ∀ a b, a < 8 → b < 8 → g a b = g' a b
theorem Eq8.refl (g : Mat) : Eq8 g g := fun _ _ _ _ => rfl
theorem Eq8.symm {g g' : Mat} (h : Eq8 g g') : Eq8 g' g := fun a b ha hb => (h a b ha hb).symm
theorem Eq8.trans {a b c : Mat} (h : Eq8 a b) (k : Eq8 b c) : Eq8 a c := fun x y hx hy => (h x y hx hy).trans (k x y hx hy)
def leastL (n : Int) (l : List Int) : Int := l.foldl min n
end Go.Proofs.YtlonpgbapiemcaaGreat

namespace Go.Proofs.YtlonpgbapiemcaaGreat
open Go Go.RowKit
set_option linter.unusedVariables false
set_option linter.unusedSimpArgs false

structure Bl where
  mi : Int
  pl : Int
  lo : Int
  deriving DecidableEq, Inhabited
structure Rp where
  bl : Int
  hd : Bool
  deriving DecidableEq, Inhabited
structure Ct where
  st : List Int
  rp : List Rp
  deriving DecidableEq, Inhabited
structure Fg where
  pl : Int
  mi : Int
  tr : List (Int × Int)
  bl : List Bl
  ct : List Ct
  deriving DecidableEq, Inhabited

/-! ### Rows of elements that are told by their cells alone -/
/-- How an element lies: k cells. -/
structure Lay (α : Type) where
  cells : α → List Value
  k : Nat
  len : ∀ x, (cells x).length = k
  one : ∀ x, ∀ u ∈ cells x, u.oneCell' = true
variable {α : Type}
def Lay.rows (F : Lay α) (l : List α) : List Value := l.flatMap F.cells
theorem Lay.rows_len (F : Lay α) (l : List α) : (F.rows l).length = l.length * F.k := by
  induction l with
  | nil => simp [Lay.rows]
  | cons x l ih => simp only [Lay.rows, List.flatMap_cons, List.length_append, F.len, List.length_cons, Nat.add_mul] at *; omega
theorem Lay.rows_app (F : Lay α) (l m : List α) : F.rows (l ++ m) = F.rows l ++ F.rows m := by simp [Lay.rows]
theorem Lay.rows_single (F : Lay α) (x : α) : F.rows [x] = F.cells x := by simp [Lay.rows]
theorem Lay.rows_nil (F : Lay α) : F.rows [] = [] := rfl
theorem Lay.rows_one (F : Lay α) (l : List α) : ∀ u ∈ F.rows l, u.oneCell' = true := by
  intro u h
  simp only [Lay.rows, List.mem_flatMap] at h
  obtain ⟨x, _, hx⟩ := h
  exact F.one x u hx
theorem Lay.rows_get (F : Lay α) (l : List α) : ∀ (i : Nat) (x : α), l[i]? = some x → ∀ (j : Nat) (u : Value), (F.cells x)[j]? = some u → (F.rows l)[i * F.k + j]? = some u := by
  induction l with
  | nil => intro i x h; simp at h
  | cons b l ih =>
    intro i x h j u hu
    have hj : j < F.k := by rw [← F.len x]; exact (List.getElem?_eq_some_iff.1 hu).1
    cases i with
    | zero =>
      simp at h; subst h
      simp only [Lay.rows, List.flatMap_cons, Nat.zero_mul, Nat.zero_add]
      rw [List.getElem?_append_left (by rw [F.len]; exact hj)]
      exact hu
    | succ i =>
      have := ih i x (by simpa using h) j u hu
      simp only [Lay.rows, List.flatMap_cons] at *
      rw [List.getElem?_append_right (by rw [F.len, Nat.add_mul]; omega), F.len]
      rw [← this]
      congr 1
      rw [Nat.add_mul]; omega
/-- A slice's address holds a row of such elements. -/
def Rows (F : Lay α) (w : World) (A : Option Addr) (l : List α) : Prop := Rd w A (F.rows l)
theorem Rows.ext {F : Lay α} {w w' : World} {A : Option Addr} {l : List α} (h : Rows F w A l) (hx : Ext w w') : Rows F w' A l := Rd.ext h hx
theorem Rows.kc {F : Lay α} {w w' : World} {A : Option Addr} {l : List α} (h : Rows F w A l) (hx : Kc w w') : Rows F w' A l := Rd.kc h hx
theorem Rows.nil (F : Lay α) (w : World) (A : Option Addr) : Rows F w A [] := Rd.nil w A
theorem Rows.at_ {F : Lay α} {w : World} {A : Option Addr} {l : List α} {i : Nat} {x : α} (h : Rows F w A l) (hk : 0 < F.k) (hi : l[i]? = some x) :
    ∃ b off, A = some ⟨b, off, none⟩ ∧ ∀ j u, (F.cells x)[j]? = some u → w.cell? ⟨b, off + i * F.k + j, none⟩ = some u := by
  obtain ⟨b, off, hA, hc⟩ := Rd.at_ h (by
    intro e
    have h1 := F.rows_len l
    rw [e] at h1
    have h2 := (List.getElem?_eq_some_iff.1 hi).1
    have h3 : 0 < l.length * F.k := Nat.mul_pos (by omega) hk
    simp at h1; omega)
  exact ⟨b, off, hA, fun j u hu => by rw [Nat.add_assoc]; exact hc _ _ (F.rows_get l i x hi j u hu)⟩

def Bl.val (b : Bl) : Value := .agg #[.int .i64 b.mi, .int .i64 b.pl, .int .i64 b.lo]
def Rp.val (r : Rp) : Value := .agg #[.int .i64 r.bl, .bool r.hd]
def pval (p : Int × Int) : Value := .agg #[.int .i64 p.1, .int .i64 p.2]
def layBl : Lay Bl := ⟨fun b => [.int .i64 b.mi, .int .i64 b.pl, .int .i64 b.lo], 3, fun _ => rfl, fun x u h => by simp at h; rcases h with rfl | rfl | rfl <;> rfl⟩
def layRp : Lay Rp := ⟨fun b => [.int .i64 b.bl, .bool b.hd], 2, fun _ => rfl, fun x u h => by simp at h; rcases h with rfl | rfl <;> rfl⟩
def layPr : Lay (Int × Int) := ⟨fun p => [.int .i64 p.1, .int .i64 p.2], 2, fun _ => rfl, fun x u h => by simp at h; rcases h with rfl | rfl <;> rfl⟩
def layIn : Lay Int := ⟨fun x => [.int .i64 x], 1, fun _ => rfl, fun x u h => by simp at h; subst h; rfl⟩
abbrev Blasts (w : World) (A : Option Addr) (l : List Bl) : Prop := Rows layBl w A l
abbrev Reps (w : World) (A : Option Addr) (l : List Rp) : Prop := Rows layRp w A l
abbrev Prs (w : World) (A : Option Addr) (l : List (Int × Int)) : Prop := Rows layPr w A l
theorem rows_in (l : List Int) : layIn.rows l = l.map (.int .i64) := by
  induction l with
  | nil => rfl
  | cons x l ih => simp only [Lay.rows, List.flatMap_cons, List.map_cons] at *; rw [ih]; rfl
theorem Blasts.at_ {w : World} {A : Option Addr} {l : List Bl} {i : Nat} {x : Bl} (h : Blasts w A l) (hi : l[i]? = some x) :
    ∃ b off, A = some ⟨b, off, none⟩ ∧ w.cell? ⟨b, off + i * 3, none⟩ = some (.int .i64 x.mi) ∧ w.cell? ⟨b, off + i * 3 + 1, none⟩ = some (.int .i64 x.pl) ∧ w.cell? ⟨b, off + i * 3 + 2, none⟩ = some (.int .i64 x.lo) := by
  obtain ⟨b, off, hA, hc⟩ := Rows.at_ h (by decide) hi
  exact ⟨b, off, hA, hc 0 _ rfl, hc 1 _ rfl, hc 2 _ rfl⟩
theorem Reps.at_ {w : World} {A : Option Addr} {l : List Rp} {i : Nat} {x : Rp} (h : Reps w A l) (hi : l[i]? = some x) :
    ∃ b off, A = some ⟨b, off, none⟩ ∧ w.cell? ⟨b, off + i * 2, none⟩ = some (.int .i64 x.bl) ∧ w.cell? ⟨b, off + i * 2 + 1, none⟩ = some (.bool x.hd) := by
  obtain ⟨b, off, hA, hc⟩ := Rows.at_ h (by decide) hi
  exact ⟨b, off, hA, hc 0 _ rfl, hc 1 _ rfl⟩
theorem Prs.at_ {w : World} {A : Option Addr} {l : List (Int × Int)} {i : Nat} {x : Int × Int} (h : Prs w A l) (hi : l[i]? = some x) :
    ∃ b off, A = some ⟨b, off, none⟩ ∧ w.cell? ⟨b, off + i * 2, none⟩ = some (.int .i64 x.1) ∧ w.cell? ⟨b, off + i * 2 + 1, none⟩ = some (.int .i64 x.2) := by
  obtain ⟨b, off, hA, hc⟩ := Rows.at_ h (by decide) hi
  exact ⟨b, off, hA, hc 0 _ rfl, hc 1 _ rfl⟩

/-! ### Carts -/
def CtR (w : World) (v : Value) (x : Ct) : Prop := ∃ A c A' c', v = .agg #[.slice A x.st.length c, .slice A' x.rp.length c'] ∧ Ints w A x.st ∧ Reps w A' x.rp ∧ x.st.length ≤ c ∧ x.rp.length ≤ c'
theorem CtR.kc {w w' : World} {v : Value} {x : Ct} (h : CtR w v x) (hx : Kc w w') : CtR w' v x := by
  obtain ⟨A, c, A', c', rfl, h1, h2, h3⟩ := h
  exact ⟨A, c, A', c', rfl, h1.kc hx, h2.kc hx, h3⟩
theorem CtR.ext {w w' : World} {v : Value} {x : Ct} (h : CtR w v x) (hx : Ext w w') : CtR w' v x := h.kc hx.kc
/-- The cells of a row of carts. -/
def CtC (w : World) : List Value → List Ct → Prop
  | [], [] => True
  | a :: b :: xs, x :: l => (∃ A c, a = .slice A x.st.length c ∧ Ints w A x.st ∧ x.st.length ≤ c) ∧ (∃ A c, b = .slice A x.rp.length c ∧ Reps w A x.rp ∧ x.rp.length ≤ c) ∧ CtC w xs l
  | _, _ => False
theorem CtC.kc {w w' : World} (hx : Kc w w') : ∀ {xs : List Value} {l : List Ct}, CtC w xs l → CtC w' xs l
  | [], [], _ => trivial
  | _ :: _ :: _, _ :: _, ⟨⟨A, c, h1, h2, h6⟩, ⟨A', c', h3, h4, h7⟩, h5⟩ => ⟨⟨A, c, h1, h2.kc hx, h6⟩, ⟨A', c', h3, h4.kc hx, h7⟩, CtC.kc hx h5⟩
  | [_], _, h => by cases ‹List Ct› <;> exact h.elim
theorem CtC.ext {w w' : World} (hx : Ext w w') {xs : List Value} {l : List Ct} (h : CtC w xs l) : CtC w' xs l := h.kc hx.kc
theorem CtC.len {w : World} : ∀ {xs : List Value} {l : List Ct}, CtC w xs l → xs.length = l.length * 2
  | [], [], _ => rfl
  | _ :: _ :: xs, _ :: l, ⟨_, _, h4⟩ => by have := CtC.len h4; simp [this]; omega
  | [_], _, h => by cases ‹List Ct› <;> exact h.elim
theorem CtC.one {w : World} : ∀ {xs : List Value} {l : List Ct}, CtC w xs l → ∀ u ∈ xs, u.oneCell' = true
  | [], [], _ => by intro u h; cases h
  | _ :: _ :: xs, _ :: l, ⟨⟨A, c, h1, _⟩, ⟨A', c', h3, _⟩, h4⟩ => by
    intro u h
    simp only [List.mem_cons] at h
    rcases h with rfl | rfl | h
    · rw [h1]; rfl
    · rw [h3]; rfl
    · exact CtC.one h4 u h
  | [_], _, h => by cases ‹List Ct› <;> exact h.elim
theorem CtC.app {w : World} : ∀ {xs ys : List Value} {l m : List Ct}, CtC w xs l → CtC w ys m → CtC w (xs ++ ys) (l ++ m)
  | [], _, [], _, _, hy => hy
  | _ :: _ :: xs, _, _ :: l, _, ⟨h1, h2, h4⟩, hy => ⟨h1, h2, CtC.app h4 hy⟩
  | [_], _, _, _, h, _ => by rename_i l _; cases l <;> exact h.elim
theorem CtC.get {w : World} : ∀ {xs : List Value} {l : List Ct}, CtC w xs l → ∀ (k : Nat) (x : Ct), l[k]? = some x →
    ∃ A c A' c', xs[k * 2]? = some (.slice A x.st.length c) ∧ xs[k * 2 + 1]? = some (.slice A' x.rp.length c') ∧ Ints w A x.st ∧ Reps w A' x.rp ∧ x.st.length ≤ c ∧ x.rp.length ≤ c'
  | [], [], _, k, x, hk => by simp at hk
  | a :: b :: xs, y :: l, ⟨⟨A, c, h1, h2, h6⟩, ⟨A', c', h3, h4, h7⟩, h5⟩, k, x, hk => by
    cases k with
    | zero =>
      simp at hk; subst hk
      exact ⟨A, c, A', c', by simp [h1], by simp [h3], h2, h4, h6, h7⟩
    | succ k =>
      have := CtC.get h5 k x (by simpa using hk)
      have e : (k + 1) * 2 = k * 2 + 1 + 1 := by omega
      rw [e]
      simp only [List.getElem?_cons_succ]
      exact this
  | [_], _, h, _, _, _ => by cases ‹List Ct› <;> exact h.elim
def Carts (w : World) (A : Option Addr) (l : List Ct) : Prop := ∃ xs, Rd w A xs ∧ CtC w xs l
theorem Carts.kc {w w' : World} {A : Option Addr} {l : List Ct} (h : Carts w A l) (hx : Kc w w') : Carts w' A l := by
  obtain ⟨xs, h1, h2⟩ := h
  exact ⟨xs, h1.kc hx, h2.kc hx⟩
theorem Carts.ext {w w' : World} {A : Option Addr} {l : List Ct} (h : Carts w A l) (hx : Ext w w') : Carts w' A l := h.kc hx.kc
theorem Carts.nil (w : World) (A : Option Addr) : Carts w A [] := ⟨[], Rd.nil w A, trivial⟩
theorem Carts.at_ {w : World} {A : Option Addr} {l : List Ct} {k : Nat} {x : Ct} (h : Carts w A l) (hk : l[k]? = some x) :
    ∃ b off A1 c1 A2 c2, A = some ⟨b, off, none⟩ ∧ w.cell? ⟨b, off + k * 2, none⟩ = some (.slice A1 x.st.length c1) ∧ w.cell? ⟨b, off + k * 2 + 1, none⟩ = some (.slice A2 x.rp.length c2) ∧ Ints w A1 x.st ∧ Reps w A2 x.rp ∧ x.st.length ≤ c1 ∧ x.rp.length ≤ c2 := by
  obtain ⟨xs, h1, h2⟩ := h
  obtain ⟨A1, c1, A2, c2, g1, g2, g3, g4, g5, g6⟩ := h2.get k x hk
  obtain ⟨b, off, hA, hc⟩ := Rd.at_ h1 (by intro e; rw [e] at g1; simp at g1)
  exact ⟨b, off, A1, c1, A2, c2, hA, hc _ _ g1, hc _ _ g2, g3, g4, g5, g6⟩

/-! ### A fog as a value -/
/-- The value of a fog whose rows lie there. -/
def fval (f : Fg) (A1 : Option Addr) (c1 : Nat) (A2 : Option Addr) (c2 : Nat) (A3 : Option Addr) (c3 : Nat) : Value :=
  .agg #[.int .i64 f.pl, .int .i64 f.mi, .slice A1 f.tr.length c1, .slice A2 f.bl.length c2, .slice A3 f.ct.length c3]
/-- The cells of a fog in a block. -/
def fcells (f : Fg) (A1 : Option Addr) (c1 : Nat) (A2 : Option Addr) (c2 : Nat) (A3 : Option Addr) (c3 : Nat) : List Value :=
  [.int .i64 f.pl, .int .i64 f.mi, .slice A1 f.tr.length c1, .slice A2 f.bl.length c2, .slice A3 f.ct.length c3]
def FgR (w : World) (v : Value) (f : Fg) : Prop := ∃ A1 c1 A2 c2 A3 c3, v = fval f A1 c1 A2 c2 A3 c3 ∧ Prs w A1 f.tr ∧ Blasts w A2 f.bl ∧ Carts w A3 f.ct ∧ f.tr.length ≤ c1 ∧ f.bl.length ≤ c2 ∧ f.ct.length ≤ c3
theorem FgR.kc {w w' : World} {v : Value} {f : Fg} (h : FgR w v f) (hx : Kc w w') : FgR w' v f := by
  obtain ⟨A1, c1, A2, c2, A3, c3, rfl, h1, h2, h3, h4⟩ := h
  exact ⟨A1, c1, A2, c2, A3, c3, rfl, h1.kc hx, h2.kc hx, h3.kc hx, h4⟩
theorem FgR.ext {w w' : World} {v : Value} {f : Fg} (h : FgR w v f) (hx : Ext w w') : FgR w' v f := h.kc hx.kc
/-- Rows of no great length. -/
structure Fg.sized (f : Fg) : Prop where
  tr : f.tr.length ≤ 1000
  bl : f.bl.length ≤ 1000
  ct : f.ct.length ≤ 1000
  each : ∀ x, x ∈ f.ct → x.st.length ≤ 1000 ∧ x.rp.length ≤ 1000

/-- Values of the kinds of elements, as arguments of a function value. -/
def BlR (_ : World) (v : Value) (x : Bl) : Prop := v = x.val
def RpR (_ : World) (v : Value) (x : Rp) : Prop := v = x.val
def PrR (_ : World) (v : Value) (x : Int × Int) : Prop := v = pval x
end Go.Proofs.YtlonpgbapiemcaaGreat

namespace Go.Proofs.YtlonpgbapiemcaaGreat
open Go Go.RowKit
set_option linter.unusedVariables false
set_option linter.unusedSimpArgs false

def tryL (f : Nat → Option (List Int)) : Nat → Nat → Option (List Int)
  | _, 0 => none
  | k, c + 1 => match f k with
    | some r => some r
    | none => tryL f (k + 1) c
/-- The first list that goes on from l with so many numbers more, from k on, below wi, for which p holds. -/
def moreL (p : List Int → Bool) (wi : Nat) : Nat → List Int → Nat → Option (List Int)
  | 0, l, _ => if p l then some l else none
  | m + 1, l, k => tryL (fun n => moreL p wi m (l ++ [(n : Int)]) (n + 1)) k (wi - k)
def fewL (p : List Int → Bool) (wi : Nat) : Option (List Int) := tryL (fun many => moreL p wi many [] 0) 0 (wi + 1)

def memI (x : Int) (l : List Int) : Bool := l.any fun y => x == y
theorem tryL_some {f : Nat → Option (List Int)} {r : List Int} : ∀ (c k : Nat), tryL f k c = some r → ∃ j, k ≤ j ∧ j < k + c ∧ f j = some r ∧ ∀ i, k ≤ i → i < j → f i = none := by
  intro c
  induction c with
  | zero => intro k h; simp [tryL] at h
  | succ c ih =>
    intro k h
    unfold tryL at h
    rcases hf : f k with _ | x
    · rw [hf] at h
      obtain ⟨j, h1, h2, h3, h4⟩ := ih (k + 1) h
      refine ⟨j, by omega, by omega, h3, fun i i1 i2 => ?_⟩
      by_cases e : i = k
      · subst e; exact hf
      · exact h4 i (by omega) i2
    · rw [hf] at h
      cases h
      exact ⟨k, by omega, by omega, hf, fun i i1 i2 => by omega⟩
theorem tryL_none {f : Nat → Option (List Int)} : ∀ (c k : Nat), tryL f k c = none → ∀ j, k ≤ j → j < k + c → f j = none := by
  intro c
  induction c with
  | zero => intro k _ j h1 h2; omega
  | succ c ih =>
    intro k h j h1 h2
    unfold tryL at h
    rcases hf : f k with _ | x
    · rw [hf] at h
      by_cases e : j = k
      · subst e; exact hf
      · exact ih (k + 1) h j (by omega) (by omega)
    · rw [hf] at h; cases h

/-- A list of numbers that grow, from k on, below wi. -/
def Asc : Nat → Nat → List Int → Prop
  | _, _, [] => True
  | k, wi, x :: e => (k : Int) ≤ x ∧ x < wi ∧ Asc (x.toNat + 1) wi e
/-- What slices.Compare answers. -/
def cmpL : List Int → List Int → Int
  | [], [] => 0
  | [], _ :: _ => -1
  | _ :: _, [] => 1
  | x :: a, y :: b => if x < y then -1 else if y < x then 1 else cmpL a b
theorem Asc.len : ∀ {e : List Int} {k wi : Nat}, Asc k wi e → e.length + k ≤ wi ∨ e = [] := by
  intro e
  induction e with
  | nil => exact fun _ => .inr rfl
  | cons x e ih =>
    intro k wi h
    obtain ⟨h1, h2, h3⟩ := h
    left
    rcases ih h3 with h4 | h4
    · simp only [List.length_cons]; omega
    · subst h4; simp; omega
theorem Asc.mem : ∀ {e : List Int} {k wi : Nat}, Asc k wi e → ∀ x ∈ e, (k : Int) ≤ x ∧ x < wi := by
  intro e
  induction e with
  | nil => intro k wi _ x h; cases h
  | cons y e ih =>
    intro k wi h x hx
    obtain ⟨h1, h2, h3⟩ := h
    rcases List.mem_cons.1 hx with rfl | hx
    · exact ⟨h1, h2⟩
    · have := ih h3 x hx; omega
theorem Asc.lt : ∀ {e : List Int} {k wi : Nat}, Asc k wi e → e.Pairwise (· < ·) := by
  intro e
  induction e with
  | nil => exact fun _ => .nil
  | cons y e ih =>
    intro k wi h
    obtain ⟨h1, h2, h3⟩ := h
    exact .cons (fun x hx => by have := h3.mem x hx; omega) (ih h3)
theorem Asc.filter (P : Nat → Bool) (wi : Nat) : ∀ (c k : Nat), k + c = wi → Asc k wi (((List.range' k c).filter P).map (fun n : Nat => (n : Int))) := by
  intro c
  induction c with
  | zero => intro k _; simp [Asc]
  | succ c ih =>
    intro k h
    have h2 := ih (k + 1) (by omega)
    rw [List.range'_succ, List.filter_cons]
    have hup : ∀ {e : List Int}, Asc (k + 1) wi e → Asc k wi e := fun {e} he => by
      cases e with
      | nil => trivial
      | cons y e => exact ⟨by have := he.1; omega, he.2.1, he.2.2⟩
    split
    · simp only [List.map_cons]
      exact ⟨by omega, by omega, by rw [Int.toNat_natCast]; exact h2⟩
    · exact hup h2

theorem moreL_spec (p : List Int → Bool) (wi : Nat) : ∀ (m : Nat) (l : List Int) (k : Nat),
    (∀ r, moreL p wi m l k = some r → ∃ e, r = l ++ e ∧ e.length = m ∧ Asc k wi e ∧ p r = true ∧ ∀ e', e'.length = m → Asc k wi e' → cmpL e' e < 0 → p (l ++ e') = false) ∧
    (moreL p wi m l k = none → ∀ e', e'.length = m → Asc k wi e' → p (l ++ e') = false) := by
  intro m
  induction m with
  | zero =>
    intro l k
    refine ⟨fun r h => ?_, fun h e' he _ => ?_⟩
    · unfold moreL at h
      split at h
      · rename_i hp
        cases h
        refine ⟨[], by simp, rfl, trivial, hp, fun e' he _ hc => ?_⟩
        obtain rfl := List.eq_nil_of_length_eq_zero he
        simp [cmpL] at hc
      · cases h
    · obtain rfl := List.eq_nil_of_length_eq_zero he
      unfold moreL at h
      split at h
      · cases h
      · rename_i hp; simpa using hp
  | succ m ih =>
    intro l k
    have hn : ∀ j : Nat, moreL p wi m (l ++ [(j : Int)]) (j + 1) = none → ∀ x e', x = (j : Int) → e'.length = m → Asc (x.toNat + 1) wi e' → p (l ++ x :: e') = false := fun j hj x e' hx hl ha => by
      subst hx
      have := (ih (l ++ [(j : Int)]) (j + 1)).2 hj e' hl (by rw [Int.toNat_natCast] at ha; exact ha)
      simpa using this
    refine ⟨fun r h => ?_, fun h e' he ha => ?_⟩
    · unfold moreL at h
      obtain ⟨j, j1, j2, j3, j4⟩ := tryL_some _ _ h
      obtain ⟨e, rfl, e1, e2, e3, e4⟩ := (ih (l ++ [(j : Int)]) (j + 1)).1 r j3
      refine ⟨(j : Int) :: e, by simp, by simp [e1], ⟨by omega, by omega, by rw [Int.toNat_natCast]; exact e2⟩, e3, fun e' he ha hc => ?_⟩
      cases e' with
      | nil => simp at he
      | cons x e' =>
        obtain ⟨a1, a2, a3⟩ := ha
        simp only [List.length_cons, Nat.add_right_cancel_iff] at he
        unfold cmpL at hc
        by_cases h1 : x < (j : Int)
        · exact hn x.toNat (j4 x.toNat (by omega) (by omega)) x e' (by omega) he a3
        · rw [if_neg h1] at hc
          by_cases h2 : (j : Int) < x
          · rw [if_pos h2] at hc; omega
          · rw [if_neg h2] at hc
            obtain rfl : x = (j : Int) := by omega
            have := e4 e' he (by rw [Int.toNat_natCast] at a3; exact a3) hc
            simpa using this
    · unfold moreL at h
      cases e' with
      | nil => simp at he
      | cons x e' =>
        obtain ⟨a1, a2, a3⟩ := ha
        simp only [List.length_cons, Nat.add_right_cancel_iff] at he
        exact hn x.toNat (tryL_none _ _ h x.toNat (by omega) (by omega)) x e' (by omega) he a3
/-- A list that is shorter, or as long and comes before. -/
def fewerL (a b : List Int) : Bool := decide (a.length < b.length) || (a.length == b.length && decide (cmpL a b < 0))
theorem fewL_some {p : List Int → Bool} {wi : Nat} {r : List Int} (h : fewL p wi = some r) : Asc 0 wi r ∧ p r = true ∧ ∀ r', Asc 0 wi r' → fewerL r' r = true → p r' = false := by
  unfold fewL at h
  obtain ⟨j, j1, j2, j3, j4⟩ := tryL_some _ _ h
  obtain ⟨e, e0, e1, e2, e3, e4⟩ := (moreL_spec p wi j [] 0).1 r j3
  rw [List.nil_append] at e0
  subst e0
  refine ⟨e2, e3, fun r' ha hf => ?_⟩
  unfold fewerL at hf
  simp only [Bool.or_eq_true, decide_eq_true_eq, Bool.and_eq_true, beq_iff_eq] at hf
  rcases hf with hf | ⟨hf, hc⟩
  · have := (moreL_spec p wi r'.length [] 0).2 (j4 _ (by omega) (by omega)) r' rfl ha
    simpa using this
  · have := e4 r' (by omega) ha hc
    simpa using this
theorem fewL_none {p : List Int → Bool} {wi : Nat} (h : fewL p wi = none) : ∀ r', Asc 0 wi r' → p r' = false := by
  intro r' ha
  unfold fewL at h
  have hl : r'.length < wi + 1 := by
    rcases ha.len with h1 | h1
    · omega
    · subst h1; simp
  have := (moreL_spec p wi r'.length [] 0).2 (tryL_none _ _ h r'.length (by omega) (by omega)) r' rfl ha
  simpa using this
theorem mem_memI {x : Int} {l : List Int} : memI x l = true ↔ x ∈ l := by
  unfold memI
  rw [List.any_eq_true]
  constructor
  · rintro ⟨y, hy, e⟩
    have : x = y := by simpa using e
    rw [this]; exact hy
  · exact fun h => ⟨x, h, by simp⟩
/-- The witnesses of a kind, as a list. -/
def someW (P : Nat → Bool) (wi : Nat) : List Int := ((List.range wi).filter P).map fun n : Nat => (n : Int)
theorem someW_asc (P : Nat → Bool) (wi : Nat) : Asc 0 wi (someW P wi) := by
  unfold someW
  rw [List.range_eq_range']
  exact Asc.filter P wi wi 0 (by omega)
theorem mem_someW {P : Nat → Bool} {wi : Nat} {x : Int} : x ∈ someW P wi ↔ 0 ≤ x ∧ x < wi ∧ P x.toNat = true := by
  unfold someW
  simp only [List.mem_map, List.mem_filter, List.mem_range]
  constructor
  · rintro ⟨n, ⟨h1, h2⟩, rfl⟩
    exact ⟨by omega, by omega, by rw [Int.toNat_natCast]; exact h2⟩
  · rintro ⟨h1, h2, h3⟩
    exact ⟨x.toNat, ⟨by omega, h3⟩, by omega⟩
theorem someW_snoc (P : Nat → Bool) (k : Nat) : someW P (k + 1) = someW P k ++ if P k then [(k : Int)] else [] := by
  unfold someW
  rw [List.range_succ, List.filter_append, List.map_append]
  congr 1
  simp only [List.filter_cons, List.filter_nil]
  split <;> rfl
theorem someW_len (P : Nat → Bool) (k : Nat) : (someW P k).length ≤ k := by
  unfold someW
  rw [List.length_map]
  exact Nat.le_trans (List.length_filter_le _ _) (by simp)

/-- A digit of a number to the base 2. -/
def bit (n i : Nat) : Bool := decide (n / 2 ^ i % 2 = 1)
theorem bit_zero (n : Nat) : bit n 0 = decide (n % 2 = 1) := by simp [bit]
theorem bit_succ (n i : Nat) : bit n (i + 1) = bit (n / 2) i := by
  unfold bit
  rw [Nat.div_div_eq_div_mul, Nat.pow_succ, Nat.mul_comm]
theorem bits_all : ∀ (wi : Nat) (P : Nat → Bool), ∃ n, n < 2 ^ wi ∧ ∀ i, i < wi → bit n i = P i := by
  intro wi
  induction wi with
  | zero => exact fun _ => ⟨0, by decide, fun i h => absurd h (by omega)⟩
  | succ wi ih =>
    intro P
    obtain ⟨n, hn, hb⟩ := ih (fun i => P (i + 1))
    refine ⟨2 * n + (if P 0 then 1 else 0), by rw [Nat.pow_succ]; split <;> omega, fun i hi => ?_⟩
    cases i with
    | zero =>
      rw [bit_zero]
      cases P 0 <;> simp <;> omega
    | succ i =>
      rw [bit_succ]
      have e : (2 * n + (if P 0 then 1 else 0)) / 2 = n := by split <;> omega
      rw [e]
      exact hb i (by omega)
theorem someW_congr {P Q : Nat → Bool} {wi : Nat} (h : ∀ i, i < wi → P i = Q i) : someW P wi = someW Q wi := by
  unfold someW
  congr 1
  exact List.filter_congr fun i hi => h i (List.mem_range.1 hi)
/-- Each list that grows is that of a set. -/
theorem asc_range : ∀ (c k wi : Nat) (e : List Int), k + c = wi → Asc k wi e → ∃ P : Nat → Bool, ((List.range' k c).filter P).map (fun n : Nat => (n : Int)) = e := by
  intro c
  induction c with
  | zero =>
    intro k wi e h ha
    refine ⟨fun _ => false, ?_⟩
    cases e with
    | nil => rfl
    | cons x e =>
      obtain ⟨h1, h2, _⟩ := ha
      omega
  | succ c ih =>
    intro k wi e h ha
    have hcong : ∀ P Q : Nat → Bool, (∀ i, k + 1 ≤ i → P i = Q i) → (List.range' (k + 1) c).filter P = (List.range' (k + 1) c).filter Q := fun P Q hPQ =>
      List.filter_congr fun i hi => hPQ i (by have := List.mem_range'_1.1 hi; omega)
    cases e with
    | nil =>
      refine ⟨fun _ => false, ?_⟩
      rw [List.filter_eq_nil_iff.2 (fun a _ => by simp)]
      rfl
    | cons x e =>
      obtain ⟨h1, h2, h3⟩ := ha
      by_cases hx : x = (k : Int)
      · subst hx
        rw [Int.toNat_natCast] at h3
        obtain ⟨P, hP⟩ := ih (k + 1) wi e (by omega) h3
        refine ⟨fun i => if i = k then true else P i, ?_⟩
        rw [List.range'_succ, List.filter_cons, if_pos (by simp), List.map_cons, hcong _ P (fun i hi => by rw [if_neg (by omega)]), hP]
      · obtain ⟨P, hP⟩ := ih (k + 1) wi (x :: e) (by omega) ⟨by omega, h2, h3⟩
        refine ⟨fun i => if i = k then false else P i, ?_⟩
        rw [List.range'_succ, List.filter_cons, if_neg (by simp), hcong _ P (fun i hi => by rw [if_neg (by omega)]), hP]
theorem asc_set {wi : Nat} {e : List Int} (h : Asc 0 wi e) : ∃ n, n < 2 ^ wi ∧ someW (bit n) wi = e := by
  obtain ⟨P, hP⟩ := asc_range wi 0 wi e (by omega) h
  obtain ⟨n, hn, hb⟩ := bits_all wi P
  refine ⟨n, hn, ?_⟩
  rw [someW_congr hb]
  unfold someW
  rw [List.range_eq_range']
  exact hP

theorem cmp_trans : ∀ {a b c : List Int}, cmpL a b < 0 → cmpL b c < 0 → cmpL a c < 0 := by
  intro a
  induction a with
  | nil =>
    intro b c h1 h2
    cases c with
    | nil =>
      cases b with
      | nil => exact h2
      | cons y b => simp [cmpL] at h2
    | cons z c => simp [cmpL]
  | cons x a ih =>
    intro b c h1 h2
    cases b with
    | nil => simp [cmpL] at h1
    | cons y b =>
      cases c with
      | nil => simp [cmpL] at h2
      | cons z c =>
        unfold cmpL at h1 h2 ⊢
        by_cases h3 : x < y
        · by_cases h4 : y < z
          · rw [if_pos (by omega)]; omega
          · rw [if_neg h4] at h2
            by_cases h5 : z < y
            · rw [if_pos h5] at h2; omega
            · rw [if_pos (by omega)]; omega
        · rw [if_neg h3] at h1
          by_cases h4 : y < x
          · rw [if_pos h4] at h1; omega
          · rw [if_neg h4] at h1
            obtain rfl : x = y := by omega
            by_cases h5 : x < z
            · rw [if_pos h5]; omega
            · rw [if_neg h5] at h2 ⊢
              by_cases h6 : z < x
              · rw [if_pos h6] at h2; omega
              · rw [if_neg h6] at h2 ⊢
                exact ih h1 h2
theorem cmp_eq : ∀ {a b : List Int}, ¬ cmpL a b < 0 → ¬ cmpL b a < 0 → a.length = b.length → a = b := by
  intro a
  induction a with
  | nil =>
    intro b _ _ h
    cases b with
    | nil => rfl
    | cons y b => cases h
  | cons x a ih =>
    intro b h1 h2 h
    cases b with
    | nil => cases h
    | cons y b =>
      unfold cmpL at h1 h2
      by_cases h3 : x < y
      · rw [if_pos h3] at h1; omega
      · by_cases h4 : y < x
        · rw [if_pos h4] at h2; omega
        · rw [if_neg h3, if_neg h4] at h1
          rw [if_neg h4, if_neg h3] at h2
          obtain rfl : x = y := by omega
          rw [ih h1 h2 (by simpa using h)]
theorem fewer_iff {a b : List Int} : fewerL a b = true ↔ a.length < b.length ∨ (a.length = b.length ∧ cmpL a b < 0) := by
  unfold fewerL
  simp
theorem fewer_trans {a b c : List Int} (h1 : fewerL a b = true) (h2 : fewerL b c = true) : fewerL a c = true := by
  rw [fewer_iff] at *
  rcases h1 with h1 | ⟨h1, k1⟩ <;> rcases h2 with h2 | ⟨h2, k2⟩
  · left; omega
  · left; omega
  · left; omega
  · right; exact ⟨by omega, cmp_trans k1 k2⟩
theorem fewer_eq {a b : List Int} (h1 : fewerL a b = false) (h2 : fewerL b a = false) : a = b := by
  rw [← Bool.not_eq_true, fewer_iff] at h1 h2
  have hl : a.length = b.length := by
    rcases Nat.lt_trichotomy a.length b.length with h | h | h
    · exact absurd (.inl h) h1
    · exact h
    · exact absurd (.inl h) h2
  exact cmp_eq (fun h => h1 (.inr ⟨hl, h⟩)) (fun h => h2 (.inr ⟨hl.symm, h⟩)) hl

/-- One set more is tried. -/
def bestStep (p : List Int → Bool) (wi : Nat) (s : Option (List Int)) (n : Nat) : Option (List Int) :=
  if (match s with | none => true | some b => fewerL (someW (bit n) wi) b) && p (someW (bit n) wi) then some (someW (bit n) wi) else s
def bestTo (p : List Int → Bool) (wi : Nat) : Nat → Option (List Int)
  | 0 => none
  | n + 1 => bestStep p wi (bestTo p wi n) n
theorem bestTo_spec (p : List Int → Bool) (wi : Nat) : ∀ n, (∀ b, bestTo p wi n = some b → (∃ m, m < n ∧ b = someW (bit m) wi) ∧ p b = true ∧ ∀ m, m < n → p (someW (bit m) wi) = true → fewerL (someW (bit m) wi) b = false) ∧
    (bestTo p wi n = none → ∀ m, m < n → p (someW (bit m) wi) = false) := by
  intro n
  induction n with
  | zero => exact ⟨fun b h => (by cases h), fun _ m h => absurd h (by omega)⟩
  | succ n ih =>
    obtain ⟨i1, i2⟩ := ih
    unfold bestTo bestStep
    rcases hb : bestTo p wi n with _ | b0
    · have h0 := i2 hb
      simp only [Bool.true_and]
      cases hp : p (someW (bit n) wi)
      · rw [if_neg (by simp)]
        refine ⟨fun b h => (by cases h), fun _ m hm => ?_⟩
        by_cases e : m = n
        · subst e; exact hp
        · exact h0 m (by omega)
      · rw [if_pos rfl]
        refine ⟨fun b h => ?_, fun h => by cases h⟩
        cases h
        refine ⟨⟨n, by omega, rfl⟩, hp, fun m hm hq => ?_⟩
        by_cases e : m = n
        · subst e
          rw [← Bool.not_eq_true, fewer_iff]
          rintro (h | ⟨_, h⟩)
          · omega
          · have : ∀ l : List Int, ¬ cmpL l l < 0 := by
              intro l
              induction l with
              | nil => simp [cmpL]
              | cons x l ih => unfold cmpL; rw [if_neg (by omega), if_neg (by omega)]; exact ih
            exact this _ h
        · rw [h0 m (by omega)] at hq; cases hq
    · obtain ⟨⟨m0, hm0, e0⟩, hp0, hall⟩ := i1 b0 hb
      simp only
      cases hc : fewerL (someW (bit n) wi) b0 && p (someW (bit n) wi)
      · rw [if_neg (by simp)]
        refine ⟨fun b h => ?_, fun h => by cases h⟩
        cases h
        refine ⟨⟨m0, by omega, e0⟩, hp0, fun m hm hq => ?_⟩
        by_cases e : m = n
        · subst e
          rw [hq, Bool.and_true] at hc
          exact hc
        · exact hall m (by omega) hq
      · rw [if_pos rfl]
        rw [Bool.and_eq_true] at hc
        refine ⟨fun b h => ?_, fun h => by cases h⟩
        cases h
        refine ⟨⟨n, by omega, rfl⟩, hc.2, fun m hm hq => ?_⟩
        rw [Bool.eq_false_iff]
        intro hf
        by_cases e : m = n
        · subst e
          have h1 := fewer_trans hf hc.1
          rw [fewer_iff] at hf
          have : ∀ l : List Int, ¬ cmpL l l < 0 := by
            intro l
            induction l with
            | nil => simp [cmpL]
            | cons x l ih => unfold cmpL; rw [if_neg (by omega), if_neg (by omega)]; exact ih
          rcases hf with h | ⟨_, h⟩
          · omega
          · exact this _ h
        · have h1 := fewer_trans hf hc.1
          rw [hall m (by omega) hq] at h1; cases h1
theorem best_is (p : List Int → Bool) (wi : Nat) : bestTo p wi (2 ^ wi) = fewL p wi := by
  obtain ⟨s1, s2⟩ := bestTo_spec p wi (2 ^ wi)
  rcases hf : fewL p wi with _ | r
  · rcases hb : bestTo p wi (2 ^ wi) with _ | b
    · rfl
    · obtain ⟨⟨m, hm, e⟩, hp, _⟩ := s1 b hb
      have := fewL_none hf b (by rw [e]; exact someW_asc _ _)
      rw [hp] at this; cases this
  · obtain ⟨f1, f2, f3⟩ := fewL_some hf
    obtain ⟨n, hn, he⟩ := asc_set f1
    rcases hb : bestTo p wi (2 ^ wi) with _ | b
    · have := s2 hb n hn
      rw [he, f2] at this; cases this
    · obtain ⟨⟨m, hm, e⟩, hp, hall⟩ := s1 b hb
      have h1 := hall n hn (by rw [he]; exact f2)
      rw [he] at h1
      have h2 : fewerL b r = false := by
        rw [Bool.eq_false_iff]
        intro h
        have := f3 b (by rw [e]; exact someW_asc _ _) h
        rw [hp] at this; cases this
      rw [fewer_eq h2 h1]
theorem best_no {p : List Int → Bool} {wi n : Nat} {s : Option (List Int)} (h : bestTo p wi n = s) (hp : p (someW (bit n) wi) = false) : bestTo p wi (n + 1) = s := by
  show bestStep p wi (bestTo p wi n) n = s
  unfold bestStep
  rw [hp, Bool.and_false, if_neg (by simp), h]
theorem best_no2 {p : List Int → Bool} {wi n : Nat} {b : List Int} (h : bestTo p wi n = some b) (hp : fewerL (someW (bit n) wi) b = false) : bestTo p wi (n + 1) = some b := by
  show bestStep p wi (bestTo p wi n) n = some b
  unfold bestStep
  rw [h]
  show (if (fewerL (someW (bit n) wi) b && p (someW (bit n) wi)) = true then some (someW (bit n) wi) else some b) = some b
  rw [hp]
  simp
theorem best_new {p : List Int → Bool} {wi n : Nat} (h : bestTo p wi n = none) (hp : p (someW (bit n) wi) = true) : bestTo p wi (n + 1) = some (someW (bit n) wi) := by
  show bestStep p wi (bestTo p wi n) n = _
  unfold bestStep
  rw [h, hp]
  rfl
theorem best_new2 {p : List Int → Bool} {wi n : Nat} {b : List Int} (h : bestTo p wi n = some b) (hf : fewerL (someW (bit n) wi) b = true) (hp : p (someW (bit n) wi) = true) : bestTo p wi (n + 1) = some (someW (bit n) wi) := by
  show bestStep p wi (bestTo p wi n) n = _
  unfold bestStep
  rw [h]
  show (if (fewerL (someW (bit n) wi) b && p (someW (bit n) wi)) = true then some (someW (bit n) wi) else some b) = _
  rw [hf, hp]
  simp
end Go.Proofs.YtlonpgbapiemcaaGreat

namespace Go.Proofs.YtlonpgbapiemcaaGreat
open Go Go.RowKit
set_option linter.unusedVariables false
set_option linter.unusedSimpArgs false

/-- Some element is the same as one ahead of it. -/
def againL {α : Type} (same : α → α → Bool) : List α → List α → Bool
  | _, [] => false
  | pre, x :: l => pre.any (same x) || againL same (pre ++ [x]) l
def sides (t : Int × Int) : Int × Int := (min t.1 t.2, max t.1 t.2)
def sameT (a b : Int × Int) : Bool := sides a == sides b
def sameR (a b : Rp) : Bool := a.bl == b.bl
/-- Each number is greater than the one ahead of it. -/
def ascL : List Int → Bool
  | [] => true
  | [_] => true
  | x :: y :: l => decide (x < y) && ascL (y :: l)
def plOK (f : Fg) (n : Int) : Bool := inB n 0 (f.pl - 1)
def miOK (f : Fg) (n : Int) : Bool := inB n 0 f.mi
def blOK (f : Fg) (n : Int) : Bool := inB n 0 ((f.bl.length : Int) - 1)
def ctOK (f : Fg) (n : Int) : Bool := inB n 0 ((f.ct.length : Int) - 1)
def manyF (f : Fg) : Bool := inB f.pl 1 8 && inB f.mi 0 8 && decide (f.tr.length ≤ 14) && decide (f.bl.length ≤ 8) && inB (f.ct.length : Int) 1 3 && f.ct.all fun c => decide (c.rp.length ≤ 8)
def limF (f : Fg) : Bool := f.bl.all fun b => inB b.lo 0 7 && miOK f b.mi
def trF (f : Fg) : Bool := f.tr.all fun t => plOK f t.1 && plOK f t.2
def bpF (f : Fg) : Bool := f.bl.all fun b => plOK f b.pl
def ctF (f : Fg) : Bool := f.ct.all fun c => c.st.all (plOK f) && c.rp.all fun r => blOK f r.bl
def difF (f : Fg) : Bool := f.tr.all fun t => t.1 != t.2
def agT (f : Fg) : Bool := againL sameT [] f.tr
def agR (f : Fg) : Bool := f.ct.all fun c => !againL sameR [] c.rp
def neF (f : Fg) : Bool := f.ct.all fun c => decide (0 < c.st.length)
def ordF (f : Fg) : Bool := f.ct.all fun c => ascL c.st
/-- The error of a fog. -/
def checkF (f : Fg) : Int :=
  if !manyF f then 2 else if !limF f then 3 else if !trF f then 1 else if !bpF f then 1 else if !ctF f then 1 else if !difF f then 8 else if agT f then 5 else if !agR f then 5 else if !neF f then 6 else if !ordF f then 4 else 0

theorem manyF_parts {f : Fg} (h : manyF f = true) : 1 ≤ f.pl ∧ f.pl ≤ 8 ∧ 0 ≤ f.mi ∧ f.mi ≤ 8 ∧ f.tr.length ≤ 14 ∧ f.bl.length ≤ 8 ∧ 1 ≤ f.ct.length ∧ f.ct.length ≤ 3 ∧ ∀ c ∈ f.ct, c.rp.length ≤ 8 := by
  simp only [manyF, Bool.and_eq_true, inB_iff, decide_eq_true_eq, List.all_eq_true] at h
  obtain ⟨⟨⟨⟨⟨⟨h1, h2⟩, h3, h4⟩, h5⟩, h6⟩, h7, h8⟩, h9⟩ := h
  exact ⟨h1, h2, h3, h4, h5, h6, by omega, by omega, h9⟩
/-- What a fog without an error is. -/
structure FogOK (f : Fg) : Prop where
  pl : 1 ≤ f.pl ∧ f.pl ≤ 8
  mi : 0 ≤ f.mi ∧ f.mi ≤ 8
  tn : f.tr.length ≤ 14
  bn : f.bl.length ≤ 8
  cn : 1 ≤ f.ct.length ∧ f.ct.length ≤ 3
  tr : ∀ t ∈ f.tr, (0 ≤ t.1 ∧ t.1 < f.pl) ∧ (0 ≤ t.2 ∧ t.2 < f.pl) ∧ t.1 ≠ t.2
  bl : ∀ b ∈ f.bl, (0 ≤ b.mi ∧ b.mi ≤ f.mi) ∧ (0 ≤ b.pl ∧ b.pl < f.pl) ∧ 0 ≤ b.lo ∧ b.lo ≤ 7
  st : ∀ c ∈ f.ct, ∀ p ∈ c.st, 0 ≤ p ∧ p < f.pl
  rp : ∀ c ∈ f.ct, ∀ r ∈ c.rp, 0 ≤ r.bl ∧ r.bl < f.bl.length
  rn : ∀ c ∈ f.ct, c.rp.length ≤ 8
  ra : ∀ c ∈ f.ct, againL sameR [] c.rp = false
  ne : ∀ c ∈ f.ct, 0 < c.st.length
  asc : ∀ c ∈ f.ct, ascL c.st = true
theorem checkF_ok {f : Fg} (h : checkF f = 0) : FogOK f := by
  cases h1 : manyF f
  case false => simp [checkF, h1] at h
  cases h2 : limF f
  case false => simp [checkF, h1, h2] at h
  cases h3 : trF f
  case false => simp [checkF, h1, h2, h3] at h
  cases h4 : bpF f
  case false => simp [checkF, h1, h2, h3, h4] at h
  cases h5 : ctF f
  case false => simp [checkF, h1, h2, h3, h4, h5] at h
  cases h6 : difF f
  case false => simp [checkF, h1, h2, h3, h4, h5, h6] at h
  cases h7 : agT f
  case true => simp [checkF, h1, h2, h3, h4, h5, h6, h7] at h
  cases h8 : agR f
  case false => simp [checkF, h1, h2, h3, h4, h5, h6, h7, h8] at h
  cases h9 : neF f
  case false => simp [checkF, h1, h2, h3, h4, h5, h6, h7, h8, h9] at h
  cases h10 : ordF f
  case false => simp [checkF, h1, h2, h3, h4, h5, h6, h7, h8, h9, h10] at h
  obtain ⟨p1, p2, m1, m2, t1, b1, c1, c2, r1⟩ := manyF_parts h1
  simp only [limF, trF, bpF, ctF, difF, agR, neF, ordF, List.all_eq_true, Bool.and_eq_true, plOK, miOK, blOK, inB_iff, decide_eq_true_eq, bne_iff_ne, ne_eq, Bool.not_eq_true'] at *
  exact {
    pl := ⟨p1, p2⟩, mi := ⟨m1, m2⟩, tn := t1, bn := b1, cn := ⟨c1, c2⟩
    tr := fun t ht => ⟨⟨(h3 t ht).1.1, by have := (h3 t ht).1.2; omega⟩, ⟨(h3 t ht).2.1, by have := (h3 t ht).2.2; omega⟩, h6 t ht⟩
    bl := fun b hb => ⟨(h2 b hb).2, ⟨(h4 b hb).1, by have := (h4 b hb).2; omega⟩, (h2 b hb).1⟩
    st := fun c hc p hp => ⟨((h5 c hc).1 p hp).1, by have := ((h5 c hc).1 p hp).2; omega⟩
    rp := fun c hc r hr => ⟨((h5 c hc).2 r hr).1, by have := ((h5 c hc).2 r hr).2; omega⟩
    rn := r1, ra := h8, ne := h9, asc := h10 }
theorem ascL_iff : ∀ {l : List Int}, ascL l = true ↔ l.Pairwise (· < ·) := by
  intro l
  induction l with
  | nil => simp [ascL]
  | cons x l ih =>
    cases l with
    | nil => simp [ascL]
    | cons y l =>
      simp only [ascL, Bool.and_eq_true, decide_eq_true_eq, ih, List.pairwise_cons, List.mem_cons]
      constructor
      · rintro ⟨h1, h2, h3⟩
        refine ⟨?_, h2, h3⟩
        rintro z (rfl | hz)
        · exact h1
        · have := h2 z hz; omega
      · rintro ⟨h1, h2, h3⟩
        exact ⟨h1 y (.inl rfl), h2, h3⟩

/-! ### Distances -/
def noWay : Int := 100
def far0 : Mat := fun a b => if a = b then 0 else noWay
def layT (g : Mat) (t : Int × Int) : Mat := upd (upd g t.1.toNat t.2.toNat 1) t.2.toNat t.1.toNat 1
def far1 (f : Fg) : Mat := f.tr.foldl layT far0
/-- One more place that can be gone over. -/
def over (g : Mat) (m : Nat) : Mat := fun a b => min (min (g a b) (g a m + g m b)) noWay
def overs (g : Mat) : Nat → Mat
  | 0 => g
  | n + 1 => over (overs g n) n
/-- All distances. -/
def farM (f : Fg) : Mat := overs (far1 f) 8
end Go.Proofs.YtlonpgbapiemcaaGreat

namespace Go.Proofs.YtlonpgbapiemcaaGreat
open Go Go.RowKit
set_option linter.unusedVariables false
set_option linter.unusedSimpArgs false

/-- A matrix of distances: nought for each place itself, and from nought to 'no way'. -/
structure Dst (g : Mat) : Prop where
  self : ∀ a, a < 8 → g a a = 0
  lo : ∀ a b, a < 8 → b < 8 → 0 ≤ g a b
  hi : ∀ a b, a < 8 → b < 8 → g a b ≤ noWay
theorem Dst.far0 : Dst far0 where
  self a _ := by simp [Go.Proofs.YtlonpgbapiemcaaGreat.far0]
  lo a b _ _ := by unfold Go.Proofs.YtlonpgbapiemcaaGreat.far0 noWay; split <;> omega
  hi a b _ _ := by unfold Go.Proofs.YtlonpgbapiemcaaGreat.far0 noWay; split <;> omega
theorem Dst.layT {g : Mat} (h : Dst g) {t : Int × Int} (ht : t.1.toNat ≠ t.2.toNat) : Dst (layT g t) where
  self a ha := by unfold Go.Proofs.YtlonpgbapiemcaaGreat.layT upd; rw [if_neg (by omega), if_neg (by omega)]; exact h.self a ha
  lo a b ha hb := by
    unfold Go.Proofs.YtlonpgbapiemcaaGreat.layT upd
    have := h.lo a b ha hb
    split
    · omega
    · split <;> omega
  hi a b ha hb := by
    unfold Go.Proofs.YtlonpgbapiemcaaGreat.layT upd
    have := h.hi a b ha hb
    unfold noWay at *
    split
    · omega
    · split <;> omega
theorem Dst.lays : ∀ {l : List (Int × Int)} {g : Mat}, Dst g → (∀ t ∈ l, t.1.toNat ≠ t.2.toNat) → Dst (l.foldl Go.Proofs.YtlonpgbapiemcaaGreat.layT g) := by
  intro l
  induction l with
  | nil => exact fun h _ => h
  | cons t l ih => exact fun h ht => ih (h.layT (ht t (by simp))) (fun x hx => ht x (by simp [hx]))
theorem Dst.over {g : Mat} (h : Dst g) {m : Nat} (hm : m < 8) : Dst (over g m) where
  self a ha := by
    have h1 := h.self a ha
    have h2 := h.lo a m ha hm
    have h3 := h.lo m a hm ha
    unfold Go.Proofs.YtlonpgbapiemcaaGreat.over noWay; omega
  lo a b ha hb := by
    have h1 := h.lo a b ha hb
    have h2 := h.lo a m ha hm
    have h3 := h.lo m b hm hb
    unfold Go.Proofs.YtlonpgbapiemcaaGreat.over noWay; omega
  hi a b ha hb := by unfold Go.Proofs.YtlonpgbapiemcaaGreat.over noWay; omega
theorem Dst.overs {g : Mat} (h : Dst g) : ∀ n, n ≤ 8 → Dst (overs g n)
  | 0, _ => h
  | n + 1, hn => (Dst.overs h n (by omega)).over (by omega)
theorem over_col {g : Mat} (h : Dst g) {m : Nat} (hm : m < 8) {a : Nat} (ha : a < 8) : over g m a m = g a m := by
  have h1 := h.self m hm
  have h2 := h.hi a m ha hm
  unfold over noWay at *; omega
theorem over_row {g : Mat} (h : Dst g) {m : Nat} (hm : m < 8) {b : Nat} (hb : b < 8) : over g m m b = g m b := by
  have h1 := h.self m hm
  have h2 := h.hi m b hm hb
  unfold over noWay at *; omega
/-- The triangle over all places ahead of n. -/
def Tri (n : Nat) (g : Mat) : Prop := ∀ a b c, a < 8 → b < 8 → c < n → g a b ≤ g a c + g c b
theorem Tri.over {g : Mat} (hd : Dst g) {m : Nat} (hm : m < 8) (h : Tri m g) : Tri (m + 1) (over g m) := by
  intro a b c ha hb hc
  have e1 := hd.lo a b ha hb
  by_cases hcm : c = m
  · subst hcm
    rw [over_col hd hm ha, over_row hd hm hb]
    unfold Go.Proofs.YtlonpgbapiemcaaGreat.over; omega
  · have hc' : c < m := by omega
    have hc8 : c < 8 := by omega
    have t1 := h a b c ha hb hc'
    have t2 := h a m c ha hm hc'
    have t3 := h m b c hm hb hc'
    have t4 := hd.lo c m hc8 hm
    have t5 := hd.lo m c hm hc8
    have t6 := hd.lo a c ha hc8
    have t7 := hd.lo c b hc8 hb
    have t8 := hd.lo a m ha hm
    have t9 := hd.lo m b hm hb
    unfold Go.Proofs.YtlonpgbapiemcaaGreat.over noWay; omega
theorem Tri.overs {g : Mat} (hd : Dst g) : ∀ n, n ≤ 8 → Tri n (overs g n)
  | 0, _ => fun _ _ _ _ _ h => by omega
  | n + 1, hn => Tri.over (hd.overs n (by omega)) (by omega) (Tri.overs hd n (by omega))

/-! ### Steps -/
/-- A track leads from a to b, or back. -/
def Adj (f : Fg) (a b : Nat) : Prop := ∃ t ∈ f.tr, (t.1 = a ∧ t.2 = b) ∨ (t.1 = b ∧ t.2 = a)
/-- What the reference asks. -/
def besideB (f : Fg) (a b : Int) : Bool := a == b || f.tr.any fun t => (t.1 == a && t.2 == b) || (t.1 == b && t.2 == a)
/-- One can go from a to b in n steps, staying allowed. -/
inductive Go_ (f : Fg) : Nat → Nat → Nat → Prop
  | here (a : Nat) : Go_ f 0 a a
  | stay {n a b : Nat} : Go_ f n a b → Go_ f (n + 1) a b
  | step {n a b c : Nat} : Go_ f n a b → Adj f b c → Go_ f (n + 1) a c
theorem Adj.symm {f : Fg} {a b : Nat} (h : Adj f a b) : Adj f b a := by
  obtain ⟨t, ht, h | h⟩ := h
  · exact ⟨t, ht, .inr h⟩
  · exact ⟨t, ht, .inl h⟩
theorem Go_.more {f : Fg} {n a b : Nat} (h : Go_ f n a b) : ∀ k, Go_ f (n + k) a b
  | 0 => h
  | k + 1 => (h.more k).stay
theorem Go_.le {f : Fg} {n m a b : Nat} (h : Go_ f n a b) (hm : n ≤ m) : Go_ f m a b := by
  have := h.more (m - n)
  rwa [show n + (m - n) = m by omega] at this
theorem Go_.trans {f : Fg} {n m a b c : Nat} (h : Go_ f n a b) (k : Go_ f m b c) : Go_ f (n + m) a c := by
  induction k with
  | here b => exact h
  | stay _ ih => exact (ih h).stay
  | step _ e ih => exact (ih h).step e
theorem Go_.back {f : Fg} {n a b : Nat} (h : Go_ f n a b) : Go_ f n b a := by
  induction h with
  | here a => exact .here a
  | stay _ ih => exact ih.stay
  | step _ e ih =>
    have := (Go_.here _).step e.symm |>.trans ih
    rw [Nat.add_comm] at this
    exact this
theorem besideB_iff {f : Fg} {a b : Nat} : besideB f (a : Int) (b : Int) = true ↔ a = b ∨ Adj f a b := by
  simp only [besideB, Bool.or_eq_true, beq_iff_eq, List.any_eq_true, Bool.and_eq_true, Int.ofNat_inj]
  rfl
theorem Go_.lt {f : Fg} {P : Nat} (hP : ∀ t ∈ f.tr, (0 ≤ t.1 ∧ t.1 < P) ∧ 0 ≤ t.2 ∧ t.2 < P) {n a b : Nat} (h : Go_ f n a b) (ha : a < P) : b < P := by
  induction h with
  | here => exact ha
  | stay _ ih => exact ih ha
  | step _ e ih =>
    obtain ⟨t, ht, e | e⟩ := e
    · have := hP t ht; omega
    · have := hP t ht; omega

/-- What is told of a matrix of distances: each is that of some way, or there is none. -/
def Sound (f : Fg) (g : Mat) : Prop := ∀ a b, a < 8 → b < 8 → g a b < noWay → Go_ f (g a b).toNat a b
theorem Sound.far0 (f : Fg) : Sound f far0 := by
  intro a b _ _ h
  unfold Go.Proofs.YtlonpgbapiemcaaGreat.far0 at *
  split at h
  · rename_i e; subst e; rw [if_pos rfl]; exact .here a
  · exact absurd h (by unfold noWay; omega)
theorem Sound.layT {f : Fg} {g : Mat} (h : Sound f g) {t : Int × Int} (ht : t ∈ f.tr) (h0 : 0 ≤ t.1 ∧ 0 ≤ t.2) : Sound f (layT g t) := by
  intro a b ha hb hlt
  unfold Go.Proofs.YtlonpgbapiemcaaGreat.layT upd at *
  split at hlt
  · rename_i e
    rw [if_pos e]
    exact (Go_.here a).step ⟨t, ht, .inr ⟨by omega, by omega⟩⟩
  · rename_i e
    rw [if_neg e]
    split at hlt
    · rename_i e2
      rw [if_pos e2]
      exact (Go_.here a).step ⟨t, ht, .inl ⟨by omega, by omega⟩⟩
    · rename_i e2
      rw [if_neg e2]
      exact h a b ha hb hlt
theorem Sound.lays {f : Fg} : ∀ {l : List (Int × Int)} {g : Mat}, Sound f g → (∀ t ∈ l, t ∈ f.tr ∧ 0 ≤ t.1 ∧ 0 ≤ t.2) → Sound f (l.foldl Go.Proofs.YtlonpgbapiemcaaGreat.layT g) := by
  intro l
  induction l with
  | nil => exact fun h _ => h
  | cons t l ih => exact fun h ht => ih (h.layT (ht t (by simp)).1 (ht t (by simp)).2) (fun x hx => ht x (by simp [hx]))
theorem Sound.over {f : Fg} {g : Mat} (hd : Dst g) (h : Sound f g) {m : Nat} (hm : m < 8) : Sound f (over g m) := by
  intro a b ha hb hlt
  have h1 := h a b ha hb
  have h2 := h a m ha hm
  have h3 := h m b hm hb
  have l1 := hd.lo a b ha hb
  have l2 := hd.lo a m ha hm
  have l3 := hd.lo m b hm hb
  unfold Go.Proofs.YtlonpgbapiemcaaGreat.over at *
  by_cases hle : g a b ≤ g a m + g m b
  · have e : min (min (g a b) (g a m + g m b)) noWay = g a b := by unfold noWay at *; omega
    rw [e] at hlt ⊢
    exact h1 hlt
  · have e : min (min (g a b) (g a m + g m b)) noWay = g a m + g m b := by unfold noWay at *; omega
    rw [e] at hlt ⊢
    have := (h2 (by omega)).trans (h3 (by omega))
    rwa [← Int.toNat_add l2 l3] at this
theorem Sound.overs {f : Fg} {g : Mat} (hd : Dst g) (h : Sound f g) : ∀ n, n ≤ 8 → Sound f (overs g n)
  | 0, _ => h
  | n + 1, hn => Sound.over (hd.overs n (by omega)) (Sound.overs hd h n (by omega)) (by omega)

/-! ### Tracks are one step -/
theorem layT_le (g : Mat) (h : ∀ a b, a < 8 → b < 8 → a ≠ b → 1 ≤ g a b) (t : Int × Int) (a b : Nat) (ha : a < 8) (hb : b < 8) (hab : a ≠ b) : layT g t a b ≤ g a b ∧ 1 ≤ layT g t a b := by
  have := h a b ha hb hab
  unfold layT upd
  split
  · omega
  · split <;> omega
theorem lays_le : ∀ (l : List (Int × Int)) (g : Mat), (∀ a b, a < 8 → b < 8 → a ≠ b → 1 ≤ g a b) → ∀ (a b : Nat), a < 8 → b < 8 → a ≠ b → l.foldl layT g a b ≤ g a b ∧ 1 ≤ l.foldl layT g a b := by
  intro l
  induction l with
  | nil => intro g h a b ha hb hab; exact ⟨Int.le_refl _, h a b ha hb hab⟩
  | cons t l ih =>
    intro g h a b ha hb hab
    have h1 := layT_le g h t a b ha hb hab
    have h2 := ih (layT g t) (fun x y hx hy hxy => (layT_le g h t x y hx hy hxy).2) a b ha hb hab
    exact ⟨Int.le_trans h2.1 h1.1, h2.2⟩
theorem far0_pos (a b : Nat) (_ : a < 8) (_ : b < 8) (h : a ≠ b) : 1 ≤ far0 a b := by unfold far0 noWay; rw [if_neg h]; omega
theorem lays_adj : ∀ (l : List (Int × Int)) (g : Mat), (∀ a b, a < 8 → b < 8 → a ≠ b → 1 ≤ g a b) → ∀ (a b : Nat), a < 8 → b < 8 → a ≠ b → (∃ t ∈ l, (t.1 = a ∧ t.2 = b) ∨ (t.1 = b ∧ t.2 = a)) → l.foldl layT g a b ≤ 1 := by
  intro l
  induction l with
  | nil => rintro g h a b ha hb hab ⟨t, ht, _⟩; cases ht
  | cons t l ih =>
    intro g h a b ha hb hab ⟨u, hu, hv⟩
    have hp : ∀ x y, x < 8 → y < 8 → x ≠ y → 1 ≤ layT g t x y := fun x y hx hy hxy => (layT_le g h t x y hx hy hxy).2
    rcases List.mem_cons.1 hu with rfl | hu
    · refine Int.le_trans (lays_le l (layT g u) hp a b ha hb hab).1 ?_
      unfold layT upd
      rcases hv with ⟨h1, h2⟩ | ⟨h1, h2⟩
      · by_cases e : a = u.2.toNat ∧ b = u.1.toNat
        · rw [if_pos e]; omega
        · rw [if_neg e, if_pos (by omega)]; omega
      · rw [if_pos (by omega)]; omega
    · exact ih (layT g t) hp a b ha hb hab ⟨u, hu, hv⟩

theorem over_le (g : Mat) (m a b : Nat) : over g m a b ≤ g a b := by unfold over; omega
theorem overs_le (g : Mat) (a b : Nat) : ∀ n, overs g n a b ≤ g a b
  | 0 => Int.le_refl _
  | n + 1 => Int.le_trans (over_le _ _ _ _) (overs_le g a b n)

/-- The distances of a right fog. -/
structure FarOK (f : Fg) (g : Mat) : Prop where
  dst : Dst g
  tri : Tri 8 g
  sound : Sound f g
  adj : ∀ a b, a < 8 → b < 8 → Adj f a b → g a b ≤ 1
theorem tr_nat {f : Fg} (h : FogOK f) : ∀ t ∈ f.tr, t.1.toNat ≠ t.2.toNat := fun t ht => by have := h.tr t ht; omega
theorem far1_dst {f : Fg} (h : FogOK f) : Dst (far1 f) := Dst.far0.lays (tr_nat h)
theorem far_ok {f : Fg} (h : FogOK f) : FarOK f (farM f) where
  dst := (far1_dst h).overs 8 (by omega)
  tri := Tri.overs (far1_dst h) 8 (by omega)
  sound := Sound.overs (far1_dst h) (Sound.lays (Sound.far0 f) fun t ht => ⟨ht, by have := h.tr t ht; omega⟩) 8 (by omega)
  adj a b ha hb e := by
    by_cases hab : a = b
    · subst hab
      have := ((far1_dst h).overs 8 (by omega)).self a ha
      unfold farM; omega
    · refine Int.le_trans (overs_le _ _ _ _) ?_
      exact lays_adj f.tr far0 far0_pos a b ha hb hab e
theorem FarOK.le {f : Fg} {g : Mat} (h : FarOK f g) (hP : ∀ t ∈ f.tr, (0 ≤ t.1 ∧ t.1 < 8) ∧ 0 ≤ t.2 ∧ t.2 < 8) {n a b : Nat} (hg : Go_ f n a b) (ha : a < 8) : g a b ≤ n := by
  induction hg with
  | here a => rw [h.dst.self a ha]; omega
  | stay _ ih => have := ih ha; omega
  | step k e ih =>
    rename_i n a b c
    have hb : b < 8 := k.lt (P := 8) (by simpa using hP) ha
    have hc : c < 8 := by
      obtain ⟨t, ht, e | e⟩ := e
      · have := hP t ht; omega
      · have := hP t ht; omega
    have h1 := ih ha
    have h2 := h.tri a c b ha hc hb
    have h3 := h.adj b c hb hc e
    omega
theorem tr_eight {f : Fg} (h : FogOK f) : ∀ t ∈ f.tr, (0 ≤ t.1 ∧ t.1 < 8) ∧ 0 ≤ t.2 ∧ t.2 < 8 := fun t ht => by
  have := h.tr t ht
  have := h.pl
  omega
theorem FarOK.symm {f : Fg} {g : Mat} (h : FarOK f g) (hf : FogOK f) {a b : Nat} (ha : a < 8) (hb : b < 8) : g a b = g b a := by
  have h1 := h.sound a b ha hb
  have h2 := h.sound b a hb ha
  have l1 := h.dst.lo a b ha hb
  have l2 := h.dst.lo b a hb ha
  have u1 := h.dst.hi a b ha hb
  have u2 := h.dst.hi b a hb ha
  by_cases c1 : g a b < noWay
  · have e1 := h.le (tr_eight hf) (h1 c1).back hb
    have e2 := h.le (tr_eight hf) (h2 (by omega)).back ha
    omega
  · by_cases c2 : g b a < noWay
    · have e2 := h.le (tr_eight hf) (h2 c2).back ha
      omega
    · omega
/-- n steps lead from a to b just if the distance is n at most. -/
theorem FarOK.iff {f : Fg} {g : Mat} (h : FarOK f g) (hf : FogOK f) {n a b : Nat} (ha : a < 8) (hb : b < 8) (hn : (n : Int) < noWay) : Go_ f n a b ↔ g a b ≤ n := by
  constructor
  · exact fun k => h.le (tr_eight hf) k ha
  · intro k
    have h1 := h.sound a b ha hb (by omega)
    have l1 := h.dst.lo a b ha hb
    exact h1.le (by omega)

/-! ### A distance is less than the number of places -/
theorem nodup_short' : ∀ (m : Nat) (l : List Nat), l.Nodup → (∀ i ∈ l, i < m) → l.length ≤ m
  | 0, [], _, _ => Nat.le_refl _
  | 0, x :: r, _, h => by have := h x (by simp); omega
  | m + 1, l, hn, h => by
    have h1 := nodup_short' m (l.erase m) (hn.erase _) (fun i hi => by
      obtain ⟨hne, hm⟩ := hn.mem_erase_iff.1 hi
      have := h i hm
      omega)
    have h2 : l.length ≤ (l.erase m).length + 1 := by
      rw [List.length_erase]
      split <;> omega
    omega
/-- Along a shortest way all distances come up. -/
theorem far_mid {f : Fg} {g : Mat} (h : FarOK f g) (hf : FogOK f) {n a b : Nat} (ha : a < 8) (hg : Go_ f n a b) (he : g a b = n) (k : Nat) (hk : k ≤ n) : ∃ v, Go_ f k a v ∧ Go_ f (n - k) v b := by
  induction hg generalizing k with
  | here a => exact ⟨a, (by rw [show k = 0 by omega]; exact .here a), (by rw [show 0 - k = 0 by omega]; exact .here a)⟩
  | stay q ih =>
    have := h.le (tr_eight hf) q ha
    omega
  | step q e ih =>
    rename_i n a b c
    by_cases hkn : k = n + 1
    · subst hkn
      exact ⟨c, q.step e, by rw [Nat.sub_self]; exact .here c⟩
    · have hb : b < 8 := q.lt (P := 8) (by simpa using tr_eight hf) ha
      have h1 := h.le (tr_eight hf) q ha
      have hc : c < 8 := by
        obtain ⟨t, ht, e | e⟩ := e
        · have := tr_eight hf t ht; omega
        · have := tr_eight hf t ht; omega
      have h2 := h.tri a c b ha hc hb
      have h3 := h.adj b c hb hc e
      obtain ⟨v, v1, v2⟩ := ih ha (by omega) k (by omega)
      exact ⟨v, v1, by rw [show n + 1 - k = (n - k) + 1 by omega]; exact v2.step e⟩
theorem far_lt {f : Fg} {g : Mat} (h : FarOK f g) (hf : FogOK f) {a b : Nat} (ha : a < f.pl.toNat) (hb : b < f.pl.toNat) (hlt : g a b < noWay) : g a b < f.pl := by
  have hp := hf.pl
  have ha8 : a < 8 := by omega
  have hb8 : b < 8 := by omega
  obtain ⟨n, hn⟩ : ∃ n : Nat, g a b = n := ⟨(g a b).toNat, by have := h.dst.lo a b ha8 hb8; omega⟩
  have hw := h.sound a b ha8 hb8 hlt
  rw [hn, Int.toNat_natCast] at hw
  have hmid : ∀ k, k ≤ n → ∃ v, v < f.pl.toNat ∧ g a v = k := by
    intro k hk
    obtain ⟨v, v1, v2⟩ := far_mid h hf ha8 hw hn k hk
    have hv : v < f.pl.toNat := v1.lt (P := f.pl.toNat) (fun t ht => by have := hf.tr t ht; omega) ha
    have e1 := h.le (tr_eight hf) v1 ha8
    have e2 := h.le (tr_eight hf) v2 (by omega)
    have e3 := h.tri a b v ha8 hb8 (by omega)
    exact ⟨v, hv, by omega⟩
  let pick : Nat → Nat := fun k => if hk : k ≤ n then (hmid k hk).choose else 0
  have hpick : ∀ k, k ≤ n → pick k < f.pl.toNat ∧ g a (pick k) = k := fun k hk => by
    simp only [pick, dif_pos hk]
    exact (hmid k hk).choose_spec
  have hnd : ((List.range (n + 1)).map pick).Nodup := by
    unfold List.Nodup
    rw [List.pairwise_map]
    refine List.Pairwise.imp_of_mem ?_ (List.nodup_range (n := n + 1))
    intro x y hx hy hxy e
    have h1 := (hpick x (by simp at hx; omega)).2
    have h2 := (hpick y (by simp at hy; omega)).2
    rw [e] at h1
    omega
  have := nodup_short' f.pl.toNat _ hnd (fun x hx => by
    simp only [List.mem_map, List.mem_range] at hx
    obtain ⟨k, hk, rfl⟩ := hx
    exact (hpick k (by omega)).1)
  simp at this
  omega
end Go.Proofs.YtlonpgbapiemcaaGreat

namespace Go.Proofs.YtlonpgbapiemcaaGreat
open Go Go.RowKit
set_option linter.unusedVariables false
set_option linter.unusedSimpArgs false

def blAt (f : Fg) (i : Int) : Bl := f.bl.getD i.toNat ⟨0, 0, 0⟩
theorem blAt_get {f : Fg} {i : Int} {b : Bl} (h : f.bl[i.toNat]? = some b) : blAt f i = b := by
  unfold blAt; rw [List.getD_eq_getElem?_getD, h]; rfl
def heardM (g : Mat) (b : Bl) (p : Nat) : Bool := decide (g b.pl.toNat p ≤ b.lo)
/-- A report that counts and that a place in a minute does not agree with. -/
def badR (g : Mat) (f : Fg) (sel : Int → Bool) (m p i : Nat) (r : Rp) : Bool := decide ((blAt f r.bl).mi = (m : Int)) && sel (i : Int) && (heardM g (blAt f r.bl) p != r.hd)
/-- A place in a minute agrees with those reports that count. -/
def agL (g : Mat) (f : Fg) (sel : Int → Bool) (m p : Nat) : Nat → List Rp → Bool
  | _, [] => true
  | i, r :: l => !badR g f sel m p i r && agL g f sel m p (i + 1) l
def agC (g : Mat) (f : Fg) (c : Ct) (sel : Int → Bool) (m p : Nat) : Bool := agL g f sel m p 0 c.rp
theorem agL_drop {g : Mat} {f : Fg} {sel : Int → Bool} {m p : Nat} {l : List Rp} {k : Nat} {r : Rp} (h : l[k]? = some r) : agL g f sel m p k (l.drop k) = (!badR g f sel m p k r && agL g f sel m p (k + 1) (l.drop (k + 1))) := by
  have hk : k < l.length := (List.getElem?_eq_some_iff.1 h).1
  rw [List.drop_eq_getElem_cons hk, (List.getElem?_eq_some_iff.1 h).2]
  rfl
theorem agL_end {g : Mat} {f : Fg} {sel : Int → Bool} {m p : Nat} {l : List Rp} {k : Nat} (h : l.length ≤ k) (i : Nat) : agL g f sel m p i (l.drop k) = true := by
  rw [List.drop_eq_nil_of_le h]; rfl
/-- Places at which a cart can be a minute later. -/
def nxt (g : Mat) (P p : Nat) : List Nat := (List.range P).filter fun q => decide (g p q ≤ 1)
theorem mem_nxt {g : Mat} {P p q : Nat} : q ∈ nxt g P p ↔ q < P ∧ g p q ≤ 1 := by simp [nxt]
theorem nxt_len (g : Mat) (P p : Nat) : (nxt g P p).length ≤ P := Nat.le_trans (List.length_filter_le _ _) (by simp)
/-- How many walks that agree go on from a place, with so many steps to come. -/
def restK (g : Mat) (f : Fg) (c : Ct) (sel : Int → Bool) : Nat → Nat → Int
  | 0, p => if agC g f c sel f.mi.toNat p then 1 else 0
  | k + 1, p => if agC g f c sel (f.mi.toNat - (k + 1)) p then ((nxt g f.pl.toNat p).map (restK g f c sel k)).sum else 0
def restM (g : Mat) (f : Fg) (c : Ct) (sel : Int → Bool) (m p : Nat) : Int := restK g f c sel (f.mi.toNat - m) p
theorem sum_le : ∀ {l : List Nat} {h : Nat → Int} {B : Int}, (∀ x ∈ l, 0 ≤ h x ∧ h x ≤ B) → 0 ≤ (l.map h).sum ∧ (l.map h).sum ≤ l.length * B := by
  intro l
  induction l with
  | nil => intro h B _; simp
  | cons x l ih =>
    intro h B hB
    obtain ⟨h1, h2⟩ := hB x (by simp)
    obtain ⟨h3, h4⟩ := ih (h := h) (B := B) (fun y hy => hB y (by simp [hy]))
    simp only [List.map_cons, List.sum_cons, List.length_cons, Int.natCast_add, Int.natCast_one, Int.add_mul, Int.one_mul]
    omega
theorem restK_le {g : Mat} {f : Fg} {c : Ct} {sel : Int → Bool} (h8 : f.pl ≤ 8) : ∀ (k p : Nat), 0 ≤ restK g f c sel k p ∧ restK g f c sel k p ≤ (8 : Int) ^ k := by
  intro k
  induction k with
  | zero => intro p; unfold restK; split <;> simp
  | succ k ih =>
    intro p
    unfold restK
    split
    · obtain ⟨h1, h2⟩ := sum_le (l := nxt g f.pl.toNat p) (h := restK g f c sel k) (B := (8 : Int) ^ k) (fun x _ => ih x)
      refine ⟨h1, Int.le_trans h2 ?_⟩
      have h3 := nxt_len g f.pl.toNat p
      have h4 : ((nxt g f.pl.toNat p).length : Int) ≤ 8 := by omega
      rw [Int.pow_succ, Int.mul_comm]
      exact Int.mul_le_mul_of_nonneg_left h4 (Int.pow_nonneg (by omega))
    · exact ⟨Int.le_refl _, Int.pow_nonneg (by omega)⟩
theorem restM_le {g : Mat} {f : Fg} {c : Ct} {sel : Int → Bool} (h : FogOK f) (m p : Nat) : 0 ≤ restM g f c sel m p ∧ restM g f c sel m p ≤ 16777216 := by
  obtain ⟨h1, h2⟩ := restK_le (g := g) (c := c) (sel := sel) h.pl.2 (f.mi.toNat - m) p
  refine ⟨h1, Int.le_trans h2 ?_⟩
  have h3 : f.mi.toNat - m ≤ 8 := by have := h.mi; omega
  generalize f.mi.toNat - m = k at h3
  have : ∀ k : Fin 9, (8 : Int) ^ k.val ≤ 16777216 := by decide
  exact this ⟨k, by omega⟩
theorem restM_end {g : Mat} {f : Fg} {c : Ct} {sel : Int → Bool} (p : Nat) : restM g f c sel f.mi.toNat p = if agC g f c sel f.mi.toNat p then 1 else 0 := by
  unfold restM; rw [Nat.sub_self]; rfl
theorem restM_step {g : Mat} {f : Fg} {c : Ct} {sel : Int → Bool} {m : Nat} (hm : m < f.mi.toNat) (p : Nat) : restM g f c sel m p = if agC g f c sel m p then ((nxt g f.pl.toNat p).map (restM g f c sel (m + 1))).sum else 0 := by
  unfold restM
  rw [show f.mi.toNat - m = (f.mi.toNat - (m + 1)) + 1 by omega]
  show (if agC g f c sel (f.mi.toNat - ((f.mi.toNat - (m + 1)) + 1)) p then _ else _) = _
  rw [show f.mi.toNat - ((f.mi.toNat - (m + 1)) + 1) = m by omega]
/-- How many walks fit a cart. -/
def countM (g : Mat) (f : Fg) (c : Ct) (sel : Int → Bool) : Int := (c.st.map fun p => restM g f c sel 0 p.toNat).sum
/-- Where a cart can be in a minute, if some walk fits. -/
def canN (g : Mat) (f : Fg) (c : Ct) : Nat → List Nat
  | 0 => (List.range f.pl.toNat).filter fun p => memI (p : Int) c.st && decide (0 < restM g f c allS 0 p)
  | m + 1 => (List.range f.pl.toNat).filter fun p => ((canN g f c m).any fun q => decide (g q p ≤ 1)) && decide (0 < restM g f c allS (m + 1) p)
where allS : Int → Bool := fun _ => true
/-- All reports count. -/
abbrev allF : Int → Bool := canN.allS
def natI (l : List Nat) : List Int := l.map fun n : Nat => (n : Int)
def canL (g : Mat) (f : Fg) (c : Ct) : List (List Int) := (List.range (f.mi.toNat + 1)).map fun m => natI (canN g f c m)
def lostF (g : Mat) (f : Fg) (c : Ct) : Bool := decide (countM g f c allF = 0)
/-- Those of some places that no blast of a choice tells apart. -/
def toldBy (g : Mat) (ch : List (Int × Int)) (p q : Int) : Bool := ch.any fun c => heardM g ⟨0, c.1, c.2⟩ p.toNat != heardM g ⟨0, c.1, c.2⟩ q.toNat
def pairsM (g : Mat) (ch : List (Int × Int)) : List Int → List (Int × Int)
  | [] => []
  | p :: l => (l.filter fun q => !toldBy g ch p q).map (fun q => (p, q)) ++ pairsM g ch l
def loudM (l : List Int) (n : Int) : List (Int × Int) := l.map fun p => (p, n)
def placesL (f : Fg) : List Int := natI (List.range f.pl.toNat)
def twinsM (g : Mat) (f : Fg) (l : List Int) (n : Int) : List (Int × Int) := pairsM g (loudM (placesL f) n) l
def decideM (g : Mat) (f : Fg) (l : List Int) (n : Int) : Option (List Int) := fewL (fun s => (pairsM g (loudM s n) l).isEmpty) f.pl.toNat
def agreedM (g : Mat) (f : Fg) (c : Ct) (s : List Int) : Bool := decide (0 < countM g f c fun i => memI i s)
def clashF (g : Mat) (f : Fg) (c : Ct) : Option (List Int) := tryL (fun many => moreL (fun s => !agreedM g f c s) c.rp.length many [] 0) 1 c.rp.length
end Go.Proofs.YtlonpgbapiemcaaGreat

namespace Go.Proofs.YtlonpgbapiemcaaGreat
open Go Go.RowKit
set_option linter.unusedVariables false
set_option linter.unusedSimpArgs false

/-! ### Sums over places -/
def sumN (n : Nat) (h : Nat → Int) : Int := ((List.range n).map h).sum
theorem sumN_zero (h : Nat → Int) : sumN 0 h = 0 := rfl
theorem sumN_succ (n : Nat) (h : Nat → Int) : sumN (n + 1) h = sumN n h + h n := by
  unfold sumN
  rw [List.range_succ, List.map_append, List.sum_append]
  simp
theorem sumN_congr {n : Nat} {h h' : Nat → Int} (e : ∀ k, k < n → h k = h' k) : sumN n h = sumN n h' := by
  induction n with
  | zero => rfl
  | succ n ih => rw [sumN_succ, sumN_succ, ih (fun k hk => e k (by omega)), e n (by omega)]
theorem sumN_add (n : Nat) (h h' : Nat → Int) : sumN n (fun k => h k + h' k) = sumN n h + sumN n h' := by
  induction n with
  | zero => rfl
  | succ n ih => simp only [sumN_succ, ih]; omega
theorem sumN_null {n : Nat} {h : Nat → Int} (e : ∀ k, k < n → h k = 0) : sumN n h = 0 := by
  induction n with
  | zero => rfl
  | succ n ih => rw [sumN_succ, ih (fun k hk => e k (by omega)), e n (by omega)]; rfl
theorem sumN_swap (n m : Nat) (F : Nat → Nat → Int) : sumN n (fun p => sumN m (F p)) = sumN m (fun q => sumN n fun p => F p q) := by
  induction n with
  | zero => simp only [sumN_zero]; exact (sumN_null fun _ _ => rfl).symm
  | succ n ih => simp only [sumN_succ]; rw [ih, ← sumN_add]
theorem sumN_mul (n : Nat) (h : Nat → Int) (x : Int) : sumN n (fun k => h k * x) = sumN n h * x := by
  induction n with
  | zero => simp [sumN_zero]
  | succ n ih => simp only [sumN_succ, ih, Int.add_mul]
theorem sumN_mul' (n : Nat) (h : Nat → Int) (x : Int) : sumN n (fun k => x * h k) = x * sumN n h := by
  induction n with
  | zero => simp [sumN_zero]
  | succ n ih => simp only [sumN_succ, ih, Int.mul_add]
theorem sumN_nonneg {n : Nat} {h : Nat → Int} (e : ∀ k, k < n → 0 ≤ h k) : 0 ≤ sumN n h := by
  induction n with
  | zero => simp [sumN_zero]
  | succ n ih => rw [sumN_succ]; have := ih (fun k hk => e k (by omega)); have := e n (by omega); omega
theorem sumN_pos {n : Nat} {h : Nat → Int} (e : ∀ k, k < n → 0 ≤ h k) : 0 < sumN n h ↔ ∃ k, k < n ∧ 0 < h k := by
  induction n with
  | zero => simp [sumN_zero]
  | succ n ih =>
    rw [sumN_succ]
    have h1 := sumN_nonneg (n := n) (h := h) (fun k hk => e k (by omega))
    have h2 := e n (by omega)
    have h3 := ih (fun k hk => e k (by omega))
    constructor
    · intro hs
      by_cases hn : 0 < h n
      · exact ⟨n, by omega, hn⟩
      · obtain ⟨k, hk, hp⟩ := h3.1 (by omega)
        exact ⟨k, by omega, hp⟩
    · rintro ⟨k, hk, hp⟩
      by_cases e2 : k = n
      · subst e2; omega
      · have := h3.2 ⟨k, by omega, hp⟩; omega
theorem sum_filter (n : Nat) (P : Nat → Bool) (h : Nat → Int) : (((List.range n).filter P).map h).sum = sumN n fun k => if P k then h k else 0 := by
  induction n with
  | zero => rfl
  | succ n ih =>
    rw [sumN_succ, List.range_succ, List.filter_append, List.map_append, List.sum_append, ih]
    congr 1
    cases hp : P n <;> simp [hp]
theorem sumN_le {n : Nat} {h h' : Nat → Int} (e : ∀ k, k < n → h k ≤ h' k) : sumN n h ≤ sumN n h' := by
  induction n with
  | zero => exact Int.le_refl _
  | succ n ih => rw [sumN_succ, sumN_succ]; have := ih (fun k hk => e k (by omega)); have := e n (by omega); omega

/-! ### Walks that come -/
def prv (g : Mat) (P p : Nat) : List Nat := (List.range P).filter fun q => decide (g q p ≤ 1)
def comeM (g : Mat) (f : Fg) (c : Ct) (sel : Int → Bool) : Nat → Nat → Int
  | 0, p => if agC g f c sel 0 p then (if memI (p : Int) c.st then 1 else 0) else 0
  | m + 1, p => if agC g f c sel (m + 1) p then ((prv g f.pl.toNat p).map (comeM g f c sel m)).sum else 0
/-- How many walks go on, whatever is said of the place itself. -/
def contM (g : Mat) (f : Fg) (c : Ct) (sel : Int → Bool) (m p : Nat) : Int := if m < f.mi.toNat then sumN f.pl.toNat (fun q => if g p q ≤ 1 then restM g f c sel (m + 1) q else 0) else 1
section
variable {g : Mat} {f : Fg} {c : Ct} {sel : Int → Bool}
theorem rest_cont {m : Nat} (hm : m ≤ f.mi.toNat) (p : Nat) : restM g f c sel m p = if agC g f c sel m p then contM g f c sel m p else 0 := by
  unfold contM
  by_cases h : m < f.mi.toNat
  · rw [if_pos h, restM_step h, nxt, sum_filter]
    simp only [decide_eq_true_eq]
  · obtain rfl : m = f.mi.toNat := by omega
    rw [if_neg h, restM_end]
theorem come_succ (m p : Nat) : comeM g f c sel (m + 1) p = if agC g f c sel (m + 1) p then sumN f.pl.toNat (fun q => if g q p ≤ 1 then comeM g f c sel m q else 0) else 0 := by
  show (if agC g f c sel (m + 1) p then ((prv g f.pl.toNat p).map (comeM g f c sel m)).sum else 0) = _
  rw [prv, sum_filter]
  simp only [decide_eq_true_eq]
theorem come_nonneg : ∀ (m p : Nat), 0 ≤ comeM g f c sel m p := by
  intro m
  induction m with
  | zero => intro p; unfold comeM; split <;> (try split) <;> omega
  | succ m ih =>
    intro p
    rw [come_succ]
    split
    · exact sumN_nonneg fun q _ => by split; exact ih q; exact Int.le_refl _
    · exact Int.le_refl _
theorem come_le (h8 : f.pl ≤ 8) : ∀ (m p : Nat), comeM g f c sel m p ≤ (8 : Int) ^ m := by
  intro m
  induction m with
  | zero => intro p; unfold comeM; split <;> (try split) <;> simp
  | succ m ih =>
    intro p
    rw [come_succ]
    split
    · have h1 : sumN f.pl.toNat (fun q => if g q p ≤ 1 then comeM g f c sel m q else 0) ≤ sumN f.pl.toNat (fun _ => (8 : Int) ^ m) := sumN_le fun q _ => by
        split
        · exact ih q
        · exact Int.pow_nonneg (by omega)
      have h2 : ∀ (n : Nat) (x : Int), sumN n (fun _ => x) = n * x := by
        intro n x
        induction n with
        | zero => simp [sumN_zero]
        | succ n ih => rw [sumN_succ, ih, Int.natCast_add, Int.natCast_one, Int.add_mul]; omega
      rw [h2] at h1
      refine Int.le_trans h1 ?_
      rw [Int.pow_succ, Int.mul_comm]
      exact Int.mul_le_mul_of_nonneg_left (by omega) (Int.pow_nonneg (by omega))
    · exact Int.pow_nonneg (by omega)
theorem rest_nonneg (m p : Nat) : 0 ≤ restM g f c sel m p := by
  unfold restM
  generalize f.mi.toNat - m = k
  induction k generalizing p with
  | zero => unfold restK; split <;> omega
  | succ k ih =>
    unfold restK
    split
    · rw [nxt, sum_filter]; exact sumN_nonneg fun q _ => by split; exact ih q; exact Int.le_refl _
    · exact Int.le_refl _
theorem cont_nonneg (m p : Nat) : 0 ≤ contM g f c sel m p := by
  unfold contM
  split
  · exact sumN_nonneg fun q _ => by split; exact rest_nonneg _ _; exact Int.le_refl _
  · omega
/-- All walks, counted at any minute. -/
theorem flow_step {m : Nat} (hm : m < f.mi.toNat) : sumN f.pl.toNat (fun p => comeM g f c sel m p * contM g f c sel m p) = sumN f.pl.toNat (fun p => comeM g f c sel (m + 1) p * contM g f c sel (m + 1) p) := by
  have h1 : sumN f.pl.toNat (fun p => comeM g f c sel m p * contM g f c sel m p) = sumN f.pl.toNat fun p => sumN f.pl.toNat fun q => comeM g f c sel m p * (if g p q ≤ 1 then restM g f c sel (m + 1) q else 0) :=
    sumN_congr fun p _ => by
      show comeM g f c sel m p * contM g f c sel m p = _
      unfold contM; rw [if_pos hm, sumN_mul']
  rw [h1, sumN_swap]
  refine sumN_congr fun q _ => ?_
  show _ = comeM g f c sel (m + 1) q * contM g f c sel (m + 1) q
  rw [come_succ]
  have h2 := rest_cont (g := g) (c := c) (sel := sel) (show m + 1 ≤ f.mi.toNat by omega) q
  cases ha : agC g f c sel (m + 1) q
  · rw [ha] at h2
    simp only [Bool.false_eq_true, if_false] at h2 ⊢
    rw [Int.zero_mul]
    exact sumN_null fun p _ => by rw [h2]; simp
  · rw [ha] at h2
    simp only [if_true] at h2 ⊢
    rw [← sumN_mul]
    refine sumN_congr fun p _ => ?_
    rw [h2]
    split <;> simp
theorem flow : ∀ m, m ≤ f.mi.toNat → sumN f.pl.toNat (fun p => comeM g f c sel 0 p * contM g f c sel 0 p) = sumN f.pl.toNat (fun p => comeM g f c sel m p * contM g f c sel m p) := by
  intro m
  induction m with
  | zero => exact fun _ => rfl
  | succ m ih => exact fun hm => (ih (by omega)).trans (flow_step (by omega))
end

/-! ### Starts -/
theorem ascL_asc : ∀ {l : List Int} {k : Nat} {P : Nat}, ascL l = true → (∀ x ∈ l, (k : Int) ≤ x ∧ x < P) → Asc k P l := by
  intro l
  induction l with
  | nil => intro k P _ _; trivial
  | cons x l ih =>
    intro k P h hm
    have hx := hm x (by simp)
    refine ⟨hx.1, hx.2, ?_⟩
    have h2 := ascL_iff.1 h
    rw [List.pairwise_cons] at h2
    refine ih (ascL_iff.2 h2.2) fun y hy => ⟨?_, (hm y (by simp [hy])).2⟩
    have := h2.1 y hy
    omega
theorem st_someW {f : Fg} (h : FogOK f) {c : Ct} (hc : c ∈ f.ct) : c.st = someW (fun p => memI (p : Int) c.st) f.pl.toNat := by
  have ha := ascL_asc (k := 0) (P := f.pl.toNat) (h.asc c hc) (fun x hx => by have := h.st c hc x hx; omega)
  obtain ⟨n, _, hn⟩ := asc_set ha
  have h2 : someW (fun p => memI (p : Int) c.st) f.pl.toNat = someW (bit n) f.pl.toNat := someW_congr fun i hi => by
    have h3 := mem_memI (x := (i : Int)) (l := c.st)
    rw [← hn, mem_someW] at h3
    rw [← hn]
    cases hb : bit n i
    · rw [Bool.eq_false_iff]
      intro hq
      have := (h3.1 hq).2.2
      rw [Int.toNat_natCast, hb] at this
      cases this
    · exact h3.2 ⟨by omega, by omega, by rw [Int.toNat_natCast]; exact hb⟩
  rw [h2, hn]
theorem st_sum {f : Fg} (h : FogOK f) {c : Ct} (hc : c ∈ f.ct) (u : Nat → Int) : (c.st.map fun p => u p.toNat).sum = sumN f.pl.toNat fun p => if memI (p : Int) c.st then u p else 0 := by
  have h1 := st_someW h hc
  rw [← sum_filter]
  rw [congrArg (fun l : List Int => (l.map fun p => u p.toNat).sum) h1]
  unfold someW
  rw [List.map_map]
  congr 1
theorem count_come {g : Mat} {f : Fg} (h : FogOK f) {c : Ct} (hc : c ∈ f.ct) (sel : Int → Bool) : countM g f c sel = sumN f.pl.toNat (comeM g f c sel f.mi.toNat) := by
  unfold countM
  rw [st_sum h hc]
  have h1 := flow (g := g) (f := f) (c := c) (sel := sel) f.mi.toNat (Nat.le_refl _)
  have h2 : sumN f.pl.toNat (fun p => comeM g f c sel f.mi.toNat p * contM g f c sel f.mi.toNat p) = sumN f.pl.toNat (comeM g f c sel f.mi.toNat) := sumN_congr fun p _ => by
    unfold contM; rw [if_neg (by omega), Int.mul_one]
  rw [← h2, ← h1]
  refine sumN_congr fun p _ => ?_
  rw [rest_cont (Nat.zero_le _)]
  unfold comeM
  cases agC g f c sel 0 p <;> cases memI (p : Int) c.st <;> simp

/-! ### Where a cart can be -/
/-- Some walk that fits is there. -/
def onM (g : Mat) (f : Fg) (c : Ct) (m p : Nat) : Bool := decide (0 < comeM g f c allF m p) && decide (0 < contM g f c allF m p)
section
variable {g : Mat} {f : Fg} {c : Ct}
theorem come_pos (m p : Nat) : 0 < comeM g f c allF (m + 1) p ↔ agC g f c allF (m + 1) p = true ∧ ∃ q, q < f.pl.toNat ∧ g q p ≤ 1 ∧ 0 < comeM g f c allF m q := by
  rw [come_succ]
  have h := sumN_pos (n := f.pl.toNat) (h := fun q => if g q p ≤ 1 then comeM g f c allF m q else 0) (fun q _ => by split; exact come_nonneg _ _; exact Int.le_refl _)
  cases ha : agC g f c allF (m + 1) p
  · simp
  · simp only [if_true, true_and]
    rw [h]
    constructor
    · rintro ⟨q, hq, hp⟩
      split at hp
      · rename_i hg; exact ⟨q, hq, hg, hp⟩
      · omega
    · rintro ⟨q, hq, hg, hp⟩
      exact ⟨q, hq, by rw [if_pos hg]; exact hp⟩
theorem cont_pos {m : Nat} (hm : m < f.mi.toNat) (p : Nat) : 0 < contM g f c allF m p ↔ ∃ q, q < f.pl.toNat ∧ g p q ≤ 1 ∧ 0 < restM g f c allF (m + 1) q := by
  unfold contM
  rw [if_pos hm]
  have h := sumN_pos (n := f.pl.toNat) (h := fun q => if g p q ≤ 1 then restM g f c allF (m + 1) q else 0) (fun q _ => by split; exact rest_nonneg _ _; exact Int.le_refl _)
  rw [h]
  constructor
  · rintro ⟨q, hq, hp⟩
    split at hp
    · rename_i hg; exact ⟨q, hq, hg, hp⟩
    · omega
  · rintro ⟨q, hq, hg, hp⟩
    exact ⟨q, hq, by rw [if_pos hg]; exact hp⟩
theorem rest_pos {m : Nat} (hm : m ≤ f.mi.toNat) (p : Nat) : 0 < restM g f c allF m p ↔ agC g f c allF m p = true ∧ 0 < contM g f c allF m p := by
  rw [rest_cont hm]
  cases agC g f c allF m p <;> simp
theorem come_ag {m p : Nat} (h : 0 < comeM g f c allF m p) : agC g f c allF m p = true := by
  cases m with
  | zero =>
    unfold comeM at h
    cases ha : agC g f c allF 0 p
    · rw [ha] at h; simp at h
    · rfl
  | succ m => exact ((come_pos m p).1 h).1
theorem canN_on : ∀ {m : Nat}, m ≤ f.mi.toNat → canN g f c m = (List.range f.pl.toNat).filter (onM g f c m) := by
  intro m
  induction m with
  | zero =>
    intro _
    unfold canN
    refine List.filter_congr fun p hp => ?_
    unfold onM
    rw [Bool.eq_iff_iff]
    simp only [Bool.and_eq_true, decide_eq_true_eq]
    show _ ∧ 0 < restM g f c allF 0 p ↔ _
    rw [rest_pos (Nat.zero_le _)]
    unfold comeM
    cases agC g f c allF 0 p <;> cases memI (p : Int) c.st <;> simp
  | succ m ih =>
    intro hm
    have hi := ih (by omega)
    unfold canN
    rw [hi]
    refine List.filter_congr fun p hp => ?_
    unfold onM
    rw [Bool.eq_iff_iff]
    simp only [Bool.and_eq_true, decide_eq_true_eq, List.any_eq_true, List.mem_filter, List.mem_range]
    show _ ∧ 0 < restM g f c allF (m + 1) p ↔ _
    rw [rest_pos hm, come_pos]
    constructor
    · rintro ⟨⟨q, ⟨hq, hc1, _⟩, hg⟩, ha, hn⟩
      exact ⟨⟨ha, q, hq, hg, hc1⟩, hn⟩
    · rintro ⟨⟨ha, q, hq, hg, hc1⟩, hn⟩
      refine ⟨⟨q, ⟨hq, hc1, ?_⟩, hg⟩, ha, hn⟩
      exact (cont_pos (by omega) q).2 ⟨p, by simpa using hp, hg, (rest_pos hm p).2 ⟨ha, hn⟩⟩
/-- The reference's places, from the last minute back. -/
def refCan (g : Mat) (f : Fg) (c : Ct) : Nat → List Nat
  | 0 => (List.range f.pl.toNat).filter fun p => decide (0 < comeM g f c allF f.mi.toNat p)
  | k + 1 => (List.range f.pl.toNat).filter fun p => ((refCan g f c k).any fun q => decide (g p q ≤ 1)) && decide (0 < comeM g f c allF (f.mi.toNat - (k + 1)) p)
theorem refCan_on : ∀ {k : Nat}, k ≤ f.mi.toNat → refCan g f c k = (List.range f.pl.toNat).filter (onM g f c (f.mi.toNat - k)) := by
  intro k
  induction k with
  | zero =>
    intro _
    unfold refCan
    refine List.filter_congr fun p hp => ?_
    unfold onM contM
    simp
  | succ k ih =>
    intro hk
    have hi := ih (by omega)
    unfold refCan
    rw [hi]
    refine List.filter_congr fun p hp => ?_
    have hm : f.mi.toNat - (k + 1) < f.mi.toNat := by omega
    have e1 : f.mi.toNat - k = f.mi.toNat - (k + 1) + 1 := by omega
    rw [e1]
    generalize f.mi.toNat - (k + 1) = m at hm e1
    unfold onM
    rw [Bool.eq_iff_iff]
    simp only [Bool.and_eq_true, decide_eq_true_eq, List.any_eq_true, List.mem_filter, List.mem_range]
    rw [cont_pos hm]
    constructor
    · rintro ⟨⟨q, ⟨hq, hc1, hn⟩, hg⟩, hcp⟩
      exact ⟨hcp, q, hq, hg, (rest_pos (by omega) q).2 ⟨come_ag hc1, hn⟩⟩
    · rintro ⟨hcp, q, hq, hg, hr⟩
      obtain ⟨ha, hn⟩ := (rest_pos (by omega) q).1 hr
      exact ⟨⟨q, ⟨hq, (come_pos m q).2 ⟨ha, p, by simpa using hp, hg, hcp⟩, hn⟩, hg⟩, hcp⟩
/-- The reference tells the program's places. -/
theorem refCan_is {m : Nat} (hm : m ≤ f.mi.toNat) : refCan g f c (f.mi.toNat - m) = canN g f c m := by
  rw [refCan_on (by omega), canN_on hm, show f.mi.toNat - (f.mi.toNat - m) = m by omega]
end
end Go.Proofs.YtlonpgbapiemcaaGreat

namespace Go.Proofs.YtlonpgbapiemcaaGreat
open Go Go.RowKit
set_option linter.unusedVariables false
set_option linter.unusedSimpArgs false

theorem agL_congr {g : Mat} {f : Fg} {sel sel' : Int → Bool} {m p : Nat} : ∀ {l : List Rp} {k : Nat}, (∀ i : Nat, k ≤ i → i < k + l.length → sel i = sel' i) → agL g f sel m p k l = agL g f sel' m p k l
  | [], _, _ => rfl
  | r :: l, k, h => by
    unfold agL badR
    rw [h k (Nat.le_refl _) (by simp), agL_congr (l := l) (k := k + 1) fun i h1 h2 => h i (by omega) (by simp only [List.length_cons]; omega)]
theorem agC_congr {g : Mat} {f : Fg} {c : Ct} {sel sel' : Int → Bool} (h : ∀ i : Nat, i < c.rp.length → sel i = sel' i) (m p : Nat) : agC g f c sel m p = agC g f c sel' m p :=
  agL_congr fun i _ h2 => h i (by omega)
theorem restK_congr {g : Mat} {f : Fg} {c : Ct} {sel sel' : Int → Bool} (h : ∀ i : Nat, i < c.rp.length → sel i = sel' i) : ∀ (k p : Nat), restK g f c sel k p = restK g f c sel' k p
  | 0, p => by unfold restK; rw [agC_congr h]
  | k + 1, p => by
    unfold restK
    rw [agC_congr h, show restK g f c sel k = restK g f c sel' k from funext fun q => restK_congr h k q]
theorem countM_congr {g : Mat} {f : Fg} {c : Ct} {sel sel' : Int → Bool} (h : ∀ i : Nat, i < c.rp.length → sel i = sel' i) : countM g f c sel = countM g f c sel' := by
  unfold countM restM
  congr 1
  exact List.map_congr_left fun p _ => restK_congr h _ _
theorem comeM_congr {g : Mat} {f : Fg} {c : Ct} {sel sel' : Int → Bool} (h : ∀ i : Nat, i < c.rp.length → sel i = sel' i) : ∀ (m p : Nat), comeM g f c sel m p = comeM g f c sel' m p
  | 0, p => by unfold comeM; rw [agC_congr h]
  | m + 1, p => by
    unfold comeM
    rw [agC_congr h, show comeM g f c sel m = comeM g f c sel' m from funext fun q => comeM_congr h m q]
/-- The reports that a set names by bits. -/
def selS (n : Nat) (i : Int) : Bool := bit n i.toNat
theorem bit_full : ∀ {n i : Nat}, i < n → bit (2 ^ n - 1) i = true
  | 0, i, h => by omega
  | n + 1, 0, _ => by
    rw [bit_zero, Nat.pow_succ]
    have := Nat.pow_pos (n := n) (show 0 < 2 by omega)
    simp only [decide_eq_true_eq]
    omega
  | n + 1, i + 1, h => by
    rw [bit_succ, show (2 ^ (n + 1) - 1) / 2 = 2 ^ n - 1 by rw [Nat.pow_succ]; have := Nat.pow_pos (n := n) (show 0 < 2 by omega); omega]
    exact bit_full (by omega)
/-- The set of all reports of a cart, by bits. -/
def everyN (c : Ct) : Nat := 2 ^ c.rp.length - 1
theorem every_sel (c : Ct) : ∀ i : Nat, i < c.rp.length → selS (everyN c) i = allF i := fun i hi => by
  show bit (everyN c) ((i : Int)).toNat = true
  rw [Int.toNat_natCast]
  exact bit_full hi
theorem every_lt {c : Ct} (h : c.rp.length ≤ 8) : everyN c < 4096 := by
  unfold everyN
  have := Nat.pow_le_pow_right (show 0 < 2 by omega) h
  omega
/-- A set's reports as a list. -/
theorem members_sel (c : Ct) (n : Nat) : ∀ i : Nat, i < c.rp.length → selS n i = memI (i : Int) (someW (bit n) c.rp.length) := fun i hi => by
  show bit n ((i : Int)).toNat = _
  rw [Int.toNat_natCast, Bool.eq_iff_iff, mem_memI, mem_someW]
  simp only [Int.toNat_natCast]
  constructor
  · intro h; exact ⟨by omega, by omega, h⟩
  · intro h; exact h.2.2
theorem count_all {g : Mat} {f : Fg} {c : Ct} : countM g f c (selS (everyN c)) = countM g f c allF := countM_congr (every_sel c)
theorem come_all {g : Mat} {f : Fg} {c : Ct} (m p : Nat) : comeM g f c (selS (everyN c)) m p = comeM g f c allF m p := comeM_congr (every_sel c) m p
end Go.Proofs.YtlonpgbapiemcaaGreat
