/- The data of layer 10 as plain records, and how they lie in memory. No program stands here. -/
import Derived.Test.YtgnjhaomlbkgcaaBase
namespace Go.Proofs.Ytgnjhaomlbkgcaa
open Go Go.RowKit
set_option linter.unusedVariables false
set_option linter.unusedSimpArgs false

structure Bd where
  f : Int
  t : Int
  m : Int
  deriving DecidableEq, Inhabited
structure Cl where
  w : Int
  bs : List Bd
  deriving DecidableEq, Inhabited
structure Cs where
  ev : Int
  bs : List Bd
  wi : Int
  cl : List Cl
  deriving DecidableEq, Inhabited

def Bd.val (b : Bd) : Value := .agg #[.int .i64 b.f, .int .i64 b.t, .int .i64 b.m]
def Bd.cells (b : Bd) : List Value := [.int .i64 b.f, .int .i64 b.t, .int .i64 b.m]

/-- The cells of a row of bounds. -/
def bcells : List Bd → List Value
  | [] => []
  | b :: l => .int .i64 b.f :: .int .i64 b.t :: .int .i64 b.m :: bcells l
theorem bcells_len (l : List Bd) : (bcells l).length = l.length * 3 := by
  induction l with
  | nil => rfl
  | cons b l ih => simp [bcells, ih]; omega
theorem bcells_app (l m : List Bd) : bcells (l ++ m) = bcells l ++ bcells m := by
  induction l with
  | nil => rfl
  | cons b l ih => simp [bcells, ih]
theorem bcells_get (l : List Bd) : ∀ (k : Nat) (x : Bd), l[k]? = some x → (bcells l)[k * 3]? = some (.int .i64 x.f) ∧ (bcells l)[k * 3 + 1]? = some (.int .i64 x.t) ∧ (bcells l)[k * 3 + 2]? = some (.int .i64 x.m) := by
  induction l with
  | nil => intro k x h; simp at h
  | cons b l ih =>
    intro k x h
    cases k with
    | zero => simp at h; subst h; simp [bcells]
    | succ k =>
      have := ih k x (by simpa using h)
      have e : (k + 1) * 3 = k * 3 + 1 + 1 + 1 := by omega
      rw [e]
      simp only [bcells, List.getElem?_cons_succ]
      exact this
theorem bcells_one (l : List Bd) : ∀ u ∈ bcells l, u.oneCell' = true := by
  induction l with
  | nil => intro u h; simp [bcells] at h
  | cons b l ih =>
    intro u h
    simp only [bcells, List.mem_cons] at h
    rcases h with rfl | rfl | rfl | h
    · rfl
    · rfl
    · rfl
    · exact ih u h

def Bounds (w : World) (A : Option Addr) (l : List Bd) : Prop := Rd w A (bcells l)
theorem Bounds.ext {w w' : World} {A : Option Addr} {l : List Bd} (h : Bounds w A l) (hx : Ext w w') : Bounds w' A l := Rd.ext h hx
theorem Bounds.kc {w w' : World} {A : Option Addr} {l : List Bd} (h : Bounds w A l) (hx : Kc w w') : Bounds w' A l := Rd.kc h hx
theorem Bounds.nil (w : World) (A : Option Addr) : Bounds w A [] := Rd.nil w A
theorem Bounds.at_ {w : World} {A : Option Addr} {l : List Bd} {k : Nat} {x : Bd} (h : Bounds w A l) (hk : l[k]? = some x) :
    ∃ b off, A = some ⟨b, off, none⟩ ∧ w.cell? ⟨b, off + k * 3, none⟩ = some (.int .i64 x.f) ∧ w.cell? ⟨b, off + k * 3 + 1, none⟩ = some (.int .i64 x.t) ∧ w.cell? ⟨b, off + k * 3 + 2, none⟩ = some (.int .i64 x.m) := by
  obtain ⟨h0, h1, h2⟩ := bcells_get l k x hk
  obtain ⟨b, off, hA, hc⟩ := Rd.at_ h (by intro e; rw [e] at h0; simp at h0)
  exact ⟨b, off, hA, hc _ _ h0, hc _ _ h1, hc _ _ h2⟩

/-- A claim as a value. -/
def ClR (w : World) (v : Value) (x : Cl) : Prop := ∃ A c, v = .agg #[.int .i64 x.w, .slice A x.bs.length c] ∧ Bounds w A x.bs
theorem ClR.kc {w w' : World} {v : Value} {x : Cl} (h : ClR w v x) (hx : Kc w w') : ClR w' v x := by
  obtain ⟨A, c, rfl, hb⟩ := h
  exact ⟨A, c, rfl, hb.kc hx⟩
theorem ClR.ext {w w' : World} {v : Value} {x : Cl} (h : ClR w v x) (hx : Ext w w') : ClR w' v x := h.kc hx.kc

/-- The cells of a row of claims. -/
def ClC (w : World) : List Value → List Cl → Prop
  | [], [] => True
  | a :: b :: xs, x :: l => a = .int .i64 x.w ∧ (∃ A c, b = .slice A x.bs.length c ∧ Bounds w A x.bs) ∧ ClC w xs l
  | _, _ => False
theorem ClC.kc {w w' : World} (hx : Kc w w') : ∀ {xs : List Value} {l : List Cl}, ClC w xs l → ClC w' xs l
  | [], [], _ => trivial
  | _ :: _ :: _, _ :: _, ⟨h1, ⟨A, c, h2, h3⟩, h4⟩ => ⟨h1, ⟨A, c, h2, h3.kc hx⟩, ClC.kc hx h4⟩
  | [_], _, h => by cases ‹List Cl› <;> exact h.elim
theorem ClC.ext {w w' : World} (hx : Ext w w') {xs : List Value} {l : List Cl} (h : ClC w xs l) : ClC w' xs l := h.kc hx.kc
theorem ClC.len {w : World} : ∀ {xs : List Value} {l : List Cl}, ClC w xs l → xs.length = l.length * 2
  | [], [], _ => rfl
  | _ :: _ :: xs, _ :: l, ⟨_, _, h4⟩ => by have := ClC.len h4; simp [this]; omega
  | [_], _, h => by cases ‹List Cl› <;> exact h.elim
theorem ClC.one {w : World} : ∀ {xs : List Value} {l : List Cl}, ClC w xs l → ∀ u ∈ xs, u.oneCell' = true
  | [], [], _ => by intro u h; cases h
  | _ :: _ :: xs, _ :: l, ⟨h1, ⟨A, c, h2, _⟩, h4⟩ => by
    intro u h
    simp only [List.mem_cons] at h
    rcases h with rfl | rfl | h
    · rw [h1]; rfl
    · rw [h2]; rfl
    · exact ClC.one h4 u h
  | [_], _, h => by cases ‹List Cl› <;> exact h.elim
theorem ClC.app {w : World} : ∀ {xs ys : List Value} {l m : List Cl}, ClC w xs l → ClC w ys m → ClC w (xs ++ ys) (l ++ m)
  | [], _, [], _, _, hy => hy
  | _ :: _ :: xs, _, _ :: l, _, ⟨h1, h2, h4⟩, hy => ⟨h1, h2, ClC.app h4 hy⟩
  | [_], _, _, _, h, _ => by rename_i l _; cases l <;> exact h.elim
theorem ClC.get {w : World} : ∀ {xs : List Value} {l : List Cl}, ClC w xs l → ∀ (k : Nat) (x : Cl), l[k]? = some x →
    xs[k * 2]? = some (.int .i64 x.w) ∧ ∃ A c, xs[k * 2 + 1]? = some (.slice A x.bs.length c) ∧ Bounds w A x.bs
  | [], [], _, k, x, hk => by simp at hk
  | a :: b :: xs, y :: l, ⟨h1, ⟨A, c, h2, h3⟩, h4⟩, k, x, hk => by
    cases k with
    | zero =>
      simp at hk; subst hk
      exact ⟨by simp [h1], A, c, by simp [h2], h3⟩
    | succ k =>
      have := ClC.get h4 k x (by simpa using hk)
      have e : (k + 1) * 2 = k * 2 + 1 + 1 := by omega
      rw [e]
      simp only [List.getElem?_cons_succ]
      exact this
  | [_], _, h, _, _, _ => by cases ‹List Cl› <;> exact h.elim

def Claims (w : World) (A : Option Addr) (l : List Cl) : Prop := ∃ xs, Rd w A xs ∧ ClC w xs l
theorem Claims.kc {w w' : World} {A : Option Addr} {l : List Cl} (h : Claims w A l) (hx : Kc w w') : Claims w' A l := by
  obtain ⟨xs, h1, h2⟩ := h
  exact ⟨xs, h1.kc hx, h2.kc hx⟩
theorem Claims.ext {w w' : World} {A : Option Addr} {l : List Cl} (h : Claims w A l) (hx : Ext w w') : Claims w' A l := h.kc hx.kc
theorem Claims.nil (w : World) (A : Option Addr) : Claims w A [] := ⟨[], Rd.nil w A, trivial⟩
theorem Claims.at_ {w : World} {A : Option Addr} {l : List Cl} {k : Nat} {x : Cl} (h : Claims w A l) (hk : l[k]? = some x) :
    ∃ b off A' c', A = some ⟨b, off, none⟩ ∧ w.cell? ⟨b, off + k * 2, none⟩ = some (.int .i64 x.w) ∧ w.cell? ⟨b, off + k * 2 + 1, none⟩ = some (.slice A' x.bs.length c') ∧ Bounds w A' x.bs := by
  obtain ⟨xs, h1, h2⟩ := h
  obtain ⟨g1, A', c', g2, g3⟩ := h2.get k x hk
  obtain ⟨b, off, hA, hc⟩ := Rd.at_ h1 (by intro e; rw [e] at g1; simp at g1)
  exact ⟨b, off, A', c', hA, hc _ _ g1, hc _ _ g2, g3⟩

/-- A case as a value. -/
def CsR (w : World) (v : Value) (x : Cs) : Prop :=
  ∃ A1 c1 A2 c2, v = .agg #[.int .i64 x.ev, .slice A1 x.bs.length c1, .int .i64 x.wi, .slice A2 x.cl.length c2] ∧ Bounds w A1 x.bs ∧ Claims w A2 x.cl
theorem CsR.kc {w w' : World} {v : Value} {x : Cs} (h : CsR w v x) (hx : Kc w w') : CsR w' v x := by
  obtain ⟨A1, c1, A2, c2, rfl, h1, h2⟩ := h
  exact ⟨A1, c1, A2, c2, rfl, h1.kc hx, h2.kc hx⟩
theorem CsR.ext {w w' : World} {v : Value} {x : Cs} (h : CsR w v x) (hx : Ext w w') : CsR w' v x := h.kc hx.kc

/-- Values of the three kinds as arguments of a function value. -/
def IntR (_ : World) (v : Value) (x : Int) : Prop := v = .int .i64 x
def BdR (_ : World) (v : Value) (x : Bd) : Prop := v = x.val
end Go.Proofs.Ytgnjhaomlbkgcaa
