/- append onto a row of the call's own: the law with the new row's block. Rows of claims whose bounds lie where P says. No program stands here. -/
import Derived.Test.YtgnjhaomlbkgcaaBelS
import Derived.Test.YtgnjhaomlbkgcaaWBase
namespace Go.Proofs.Ytgnjhaomlbkgcaa
open Go Go.RowKit
set_option linter.unusedVariables false
set_option linter.unusedSimpArgs false

theorem wp_append_rd2 {P : Program} (w : World) {o : Oper} {a : Act} {K : Act → World → Prop} {Q : Exit → Act → World → Prop} (s x : Operand) (t : TypeId)
    (ho : o.op = .call { callee := .builtin .append, args := #[s, x], argTypes := #[t, t] }) {e : TypeId} {size bytes : Nat} (E : ElemOK P t e size bytes) (base : Nat)
    (v : Value) (n : Nat) (xs : List Value) (hs : a.eval s = v) (hown : w.ownsRow base e size v n xs) (A : Option Addr) (m c : Nat) (news : List Value) (hx : a.eval x = .slice A m c)
    (hl : news.length = m * size) (hr : Rd w A news) (h1 : ∀ u ∈ news, u.oneCell' = true) (hbytes : (n + m) * bytes ≤ 140737488355328) (hbase : base ≤ w.heap.size)
    (h : ∀ A' c' w', w'.ownsRow base e size (.slice A' (n + m) c') (n + m) (xs ++ news) → Below base w w' → w.grownBy w' v.ownBlock → ((Value.slice A' (n + m) c').ownBlock = v.ownBlock ∨ (Value.slice A' (n + m) c').ownBlock = some w.heap.size) → K (a.put o.dst (.slice A' (n + m) c')) w') : o.wp P a w K Q := by
  obtain ⟨v', w', hrun, h2, h3, h4, h5⟩ := run_append_rd (P := P) w t o.type e size bytes E base v n xs hown A m c news hl hr h1 hbytes hbase
  obtain ⟨A', c', rfl⟩ := own_slice h2
  unfold Oper.wp execOp
  simp only [ho, resolve, invoke, builtin, Sem.run_bind, Sem.run_pure, Result.andThen_ok, List.map_toArray, List.map_cons, List.map_nil, hs, hx, hrun]
  have hB : Below base w w' := (Below.refl base w).grown h3 hbase (fun k hk => (hown.lt k hk).1)
  exact h A' c' w' h2 hB h3 h5
theorem wpList_append_rd2 {P : Program} (w : World) {ops : Array Oper} {rest : List Oper} {o : Oper} {a : Act} {Q : Exit → Act → World → Prop} (hgd : o.guard = none) (s x : Operand) (t : TypeId)
    (ho : o.op = .call { callee := .builtin .append, args := #[s, x], argTypes := #[t, t] }) {e : TypeId} {size bytes : Nat} (E : ElemOK P t e size bytes) (base : Nat)
    (v : Value) (n : Nat) (xs : List Value) (hs : a.eval s = v) (hown : w.ownsRow base e size v n xs) (A : Option Addr) (m c : Nat) (news : List Value) (hx : a.eval x = .slice A m c)
    (hl : news.length = m * size) (hr : Rd w A news) (h1 : ∀ u ∈ news, u.oneCell' = true) (hbytes : (n + m) * bytes ≤ 140737488355328) (hbase : base ≤ w.heap.size)
    (h : ∀ A' c' w', w'.ownsRow base e size (.slice A' (n + m) c') (n + m) (xs ++ news) → Below base w w' → w.grownBy w' v.ownBlock → ((Value.slice A' (n + m) c').ownBlock = v.ownBlock ∨ (Value.slice A' (n + m) c').ownBlock = some w.heap.size) → wpList P ops Q rest (a.put o.dst (.slice A' (n + m) c')) w') : wpList P ops Q (o :: rest) a w :=
  wpList_plain hgd fun _ hK => wp_append_rd2 w s x t ho E base v n xs hs hown A m c news hx hl hr h1 hbytes hbase fun A' c' w' h2 h3 h4 h5 => hK _ _ (h A' c' w' h2 h3 h4 h5)

/-- A row of claims whose bounds lie where P says. -/
def ClP (P : Addr → Prop) (w : World) : List Value → List Cl → Prop
  | [], [] => True
  | a :: b :: xs, x :: l => a = .int .i64 x.w ∧ (∃ A c, b = .slice A x.bs.length c ∧ Bounds w A x.bs ∧ ∀ p, A = some p → P p) ∧ ClP P w xs l
  | _, _ => False
theorem ClP.toC {P : Addr → Prop} {w : World} : ∀ {xs : List Value} {l : List Cl}, ClP P w xs l → ClC w xs l
  | [], [], _ => trivial
  | _ :: _ :: _, _ :: _, ⟨h1, ⟨A, c, h2, h3, _⟩, h4⟩ => ⟨h1, ⟨A, c, h2, h3⟩, ClP.toC h4⟩
  | [_], _, h => by cases ‹List Cl› <;> exact h.elim
theorem ClP.mono {P P' : Addr → Prop} {w : World} (hp : ∀ p, P p → P' p) : ∀ {xs : List Value} {l : List Cl}, ClP P w xs l → ClP P' w xs l
  | [], [], _ => trivial
  | _ :: _ :: _, _ :: _, ⟨h1, ⟨A, c, h2, h3, h5⟩, h4⟩ => ⟨h1, ⟨A, c, h2, h3, fun p e => hp p (h5 p e)⟩, ClP.mono hp h4⟩
  | [_], _, h => by cases ‹List Cl› <;> exact h.elim
theorem ClP.keep {P : Addr → Prop} {w w' : World} (hk : ∀ A xs, (∀ p, A = some p → P p) → Rd w A xs → Rd w' A xs) : ∀ {xs : List Value} {l : List Cl}, ClP P w xs l → ClP P w' xs l
  | [], [], _ => trivial
  | _ :: _ :: _, _ :: _, ⟨h1, ⟨A, c, h2, h3, h5⟩, h4⟩ => ⟨h1, ⟨A, c, h2, hk _ _ h5 h3, h5⟩, ClP.keep hk h4⟩
  | [_], _, h => by cases ‹List Cl› <;> exact h.elim
theorem ClP.app {P : Addr → Prop} {w : World} : ∀ {xs ys : List Value} {l m : List Cl}, ClP P w xs l → ClP P w ys m → ClP P w (xs ++ ys) (l ++ m)
  | [], _, [], _, _, hy => hy
  | _ :: _ :: xs, _, _ :: l, _, ⟨h1, h2, h4⟩, hy => ⟨h1, h2, ClP.app h4 hy⟩
  | [_], _, _, _, h, _ => by rename_i l _; cases l <;> exact h.elim
theorem ClP.belS {P : Addr → Prop} {S : Nat → Prop} {w w' : World} (hb : BelS S w w') (hP : ∀ p, P p → ¬ S p.block) {xs : List Value} {l : List Cl} (h : ClP P w xs l) : ClP P w' xs l :=
  h.keep fun _ _ hA hr => hb.rd hr fun p e => hP p (hA p e)
theorem own_block_lt {w : World} {base e size n : Nat} {A : Option Addr} {c : Nat} {xs : List Value} (h : w.ownsRow base e size (.slice A n c) n xs) : ∀ a, A = some a → base ≤ a.block ∧ a.block < w.heap.size := by
  intro a ha
  subst ha
  exact h.lt a.block rfl
theorem slice_own {A : Option Addr} {n c g : Nat} (h : (Value.slice A n c).ownBlock = some g) : ∃ a, A = some a ∧ a.block = g := by
  cases A with
  | none => cases h
  | some a => exact ⟨a, rfl, by simpa [Value.ownBlock] using h⟩
end Go.Proofs.Ytgnjhaomlbkgcaa
