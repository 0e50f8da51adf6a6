/- How a boil.House, and the slices that the laws of layer 8 take besides, read when they come in. -/
import Derived.Test.YtjnobdcbbboeeaaRows
import Derived.Test.YtjnobdcbbboeeaaH1
import Derived.Test.YtjnobdcbbboeeaaH4
import Derived.Deep.Slices
import Derived.Deep.Fields
import Derived.Lib.SmallJoins
import Derived.WalkKit
import Derived.ProofKit
import Derived.OpenShut
import Derived.ShutString
import Derived.ChangeOld
import Derived.Below
namespace Go.Proofs.Ytjnobdcbbboeeaa
open Go Go.RowKit Go.Deep Go.ChangeShapes Go.WideShapes Go.Joins
set_option linter.unusedVariables false
set_option linter.unusedSimpArgs false
set_option maxRecDepth 100000

theorem lOwn : ownKnob Try.prog.godebug = none := by kernel_rfl
theorem lLaid : laidOutB Try.prog = true := by kernel_rfl
theorem rd_of_cells {W : World} {a : Addr} {xs : List Value} (h : ∀ j u, xs[j]? = some u → W.cell? (a.add j) = some u) : Rd W (some a) xs := by
  cases xs with
  | nil => exact .inl rfl
  | cons u r =>
    obtain ⟨b, off, spot⟩ := a
    have hc := h 0 u rfl
    have hspot : spot = none := by simpa [Addr.add] using World.cell?_spot hc
    subst hspot
    refine .inr ⟨b, off, rfl, fun j v hv => ?_⟩
    have h2 := h j v hv
    rw [Addr.add_lit] at h2
    exact h2
theorem read_lay {α : Type} (F : Lay α) {W : World} {a : Addr} : ∀ (len : Nat), (∀ i, i < len → ∃ x : α, ∀ r u, (F.cells x)[r]? = some u → W.cell? (a.add (i * F.k + r)) = some u) →
    ∃ l : List α, l.length = len ∧ ∀ j u, (F.rows l)[j]? = some u → W.cell? (a.add j) = some u
  | 0, _ => ⟨[], rfl, fun j u h => by simp [Lay.rows] at h⟩
  | len + 1, h => by
    obtain ⟨l, hl, hc⟩ := read_lay F len (fun i hi => h i (by omega))
    obtain ⟨x, hx⟩ := h len (by omega)
    refine ⟨l ++ [x], by simp [hl], fun j u hu => ?_⟩
    rw [F.rows_app] at hu
    by_cases hj : j < (F.rows l).length
    · rw [List.getElem?_append_left hj] at hu
      exact hc j u hu
    · rw [List.getElem?_append_right (by omega)] at hu
      have e : (F.rows l).length = len * F.k := by rw [F.rows_len, hl]
      rw [e, F.rows_single] at hu
      rw [e] at hj
      obtain ⟨r, rfl⟩ : ∃ r, j = len * F.k + r := ⟨j - len * F.k, by omega⟩
      rw [Nat.add_sub_cancel_left] at hu
      exact hx r u hu

section
variable {H : Type} {enc : TypeId × Value → H} {W : World}
theorem cells_int : Try.prog.cellsOf 3 = 1 := by kernel_rfl
/-- A slice of such elements. -/
theorem trod_rows {α : Type} (F : Lay α) {t e : TypeId} (ht : Try.prog.underlying t = some (.slice e)) (hC : Try.prog.cellsOf e = F.k)
    (hE : ∀ (n : Nat) (cs : List Value) (y : DataW H × List MemPlace), cs.length = F.k → DataW.trod enc Try.prog W 0 (fun _ => true) true n e cs = some y → ∃ x : α, cs = F.cells x)
    {n : Nat} {v : Value} {y : DataW H × List MemPlace} (h : DataW.trod enc Try.prog W 0 (fun _ => true) true n t [v] = some y) :
    ∃ (A : Option Addr) (c : Nat) (l : List α), v = .slice A l.length c ∧ Rows F W A l ∧ l.length ≤ c ∧ l.length ≤ 9223372036854775807 := by
  rcases open_slice ht h with ⟨hcs, _⟩ | ⟨a, len, cap, m, n', D, Pl, hcs, hb, hl, hm, hmm, hx, hi⟩
  · cases hcs
    exact ⟨none, 0, [], rfl, .inl rfl, by simp, by simp⟩
  · cases hcs
    have hm2 : m = cap := by simpa using hmm
    simp only [maxLen] at hm
    obtain ⟨l, hll, hc⟩ := read_lay F (W := W) (a := a) len (fun i hi' => by
      obtain ⟨cs', hc, htr⟩ := hi i (by omega)
      rw [hC] at hc
      obtain ⟨_, hcl, hat⟩ := World.cells?_some hc
      obtain ⟨x, rfl⟩ := hE _ _ _ hcl htr
      refine ⟨x, fun r u hu => ?_⟩
      have hr : r < F.k := by rw [← hcl]; exact (List.getElem?_eq_some_iff.1 hu).1
      have g := hat r hr
      rw [add_add, hu] at g
      exact g)
    subst hll
    exact ⟨_, cap, l, rfl, rd_of_cells hc, hl, by omega⟩
theorem elem_int_in (n : Nat) (cs : List Value) (y : DataW H × List MemPlace) (hl : cs.length = layIn.k) (h : DataW.trod enc Try.prog W 0 (fun _ => true) true n 3 cs = some y) : ∃ x : Int, cs = layIn.cells x := by
  obtain ⟨a, rfl, _⟩ := DataW.trod_int Try.underlying3 h
  exact ⟨a, rfl⟩
theorem elem_rt_in (n : Nat) (cs : List Value) (y : DataW H × List MemPlace) (hl : cs.length = layPr.k) (h : DataW.trod enc Try.prog W 0 (fun _ => true) true n 43 cs = some y) : ∃ x : Int × Int, cs = layPr.cells x := by
  match cs, hl with
  | [u0, u1], _ =>
    obtain ⟨ys, n2, _, _, _, hyl, hf⟩ := DataW.trod_struct Try.underlying43 h
    match ys, hyl with
    | [y0, y1], _ =>
      have f0 : DataW.trod enc Try.prog W 0 (fun _ => true) true n2 3 [u0] = some y0 := by have h := hf 0 _ rfl; simpa [cells_int] using h
      have f1 : DataW.trod enc Try.prog W 0 (fun _ => true) true n2 3 [u1] = some y1 := by have h := hf 1 _ rfl; simpa [cells_int] using h
      obtain ⟨a0, e0, _⟩ := DataW.trod_int Try.underlying3 f0
      obtain ⟨a1, e1, _⟩ := DataW.trod_int Try.underlying3 f1
      cases e0
      cases e1
      exact ⟨(a0, a1), rfl⟩
theorem elem_bpr_in (n : Nat) (cs : List Value) (y : DataW H × List MemPlace) (hl : cs.length = layPr.k) (h : DataW.trod enc Try.prog W 0 (fun _ => true) true n 36 cs = some y) : ∃ x : Int × Int, cs = layPr.cells x := by
  match cs, hl with
  | [u0, u1], _ =>
    obtain ⟨ys, n2, _, _, _, hyl, hf⟩ := DataW.trod_struct Try.underlying36 h
    match ys, hyl with
    | [y0, y1], _ =>
      have f0 : DataW.trod enc Try.prog W 0 (fun _ => true) true n2 3 [u0] = some y0 := by have h := hf 0 _ rfl; simpa [cells_int] using h
      have f1 : DataW.trod enc Try.prog W 0 (fun _ => true) true n2 3 [u1] = some y1 := by have h := hf 1 _ rfl; simpa [cells_int] using h
      obtain ⟨a0, e0, _⟩ := DataW.trod_int Try.underlying3 f0
      obtain ⟨a1, e1, _⟩ := DataW.trod_int Try.underlying3 f1
      cases e0
      cases e1
      exact ⟨(a0, a1), rfl⟩
theorem rows_ints : ∀ (l : List Int), layIn.rows l = l.map (.int .i64)
  | [] => rfl
  | x :: l => by
    show layIn.cells x ++ layIn.rows l = _
    rw [rows_ints l]; rfl
theorem trod_ints {n : Nat} {v : Value} {y : DataW H × List MemPlace} (h : DataW.trod enc Try.prog W 0 (fun _ => true) true n 64 [v] = some y) :
    ∃ (A : Option Addr) (c : Nat) (l : List Int), v = .slice A l.length c ∧ Ints W A l ∧ l.length ≤ c ∧ l.length ≤ 9223372036854775807 := by
  obtain ⟨A, c, l, h1, h2, h3, h4⟩ := trod_rows layIn Try.underlying64 (by kernel_rfl) elem_int_in h
  refine ⟨A, c, l, h1, ?_, h3, h4⟩
  unfold Rows at h2
  rw [rows_ints] at h2
  exact h2
theorem trod_rts {n : Nat} {v : Value} {y : DataW H × List MemPlace} (h : DataW.trod enc Try.prog W 0 (fun _ => true) true n 26 [v] = some y) :
    ∃ (A : Option Addr) (c : Nat) (l : List (Int × Int)), v = .slice A l.length c ∧ Prs W A l ∧ l.length ≤ c ∧ l.length ≤ 9223372036854775807 := trod_rows layPr Try.underlying26 (by kernel_rfl) elem_rt_in h
theorem trod_bprs {n : Nat} {v : Value} {y : DataW H × List MemPlace} (h : DataW.trod enc Try.prog W 0 (fun _ => true) true n 69 [v] = some y) :
    ∃ (A : Option Addr) (c : Nat) (l : List (Int × Int)), v = .slice A l.length c ∧ Prs W A l ∧ l.length ≤ c ∧ l.length ≤ 9223372036854775807 := trod_rows layPr Try.underlying69 (by kernel_rfl) elem_bpr_in h
theorem elem_wg_in (n : Nat) (cs : List Value) (y : DataW H × List MemPlace) (hl : cs.length = layWg.k) (h : DataW.trod enc Try.prog W 0 (fun _ => true) true n 55 cs = some y) : ∃ x : Wg, cs = layWg.cells x := by
  have hS : Try.prog.cellsOf 47 = 2 := by kernel_rfl
  match cs, hl with
  | [u0, u1, u2, u3, u4], _ =>
    obtain ⟨ys, n2, _, _, _, hyl, hf⟩ := DataW.trod_struct Try.underlying55 h
    match ys, hyl with
    | [y0, y1, y2], _ =>
      have f0 : DataW.trod enc Try.prog W 0 (fun _ => true) true n2 3 [u0] = some y0 := by have h := hf 0 _ rfl; simpa [cells_int] using h
      have f1 : DataW.trod enc Try.prog W 0 (fun _ => true) true n2 47 [u1, u2] = some y1 := by have h := hf 1 _ rfl; simpa [cells_int, hS] using h
      have f2 : DataW.trod enc Try.prog W 0 (fun _ => true) true n2 47 [u3, u4] = some y2 := by have h := hf 2 _ rfl; simpa [cells_int, hS] using h
      obtain ⟨a0, e0, _⟩ := DataW.trod_int Try.underlying3 f0
      have sp : ∀ (a b : Value) (yy : DataW H × List MemPlace), DataW.trod enc Try.prog W 0 (fun _ => true) true n2 47 [a, b] = some yy → ∃ p q : Int, a = .int .i64 p ∧ b = .int .i64 q := fun a b yy hh => by
        obtain ⟨zs, n3, _, _, _, hzl, hk⟩ := DataW.trod_struct Try.underlying47 hh
        match zs, hzl with
        | [z0, z1], _ =>
          have g0 : DataW.trod enc Try.prog W 0 (fun _ => true) true n3 3 [a] = some z0 := by have h := hk 0 _ rfl; simpa [cells_int] using h
          have g1 : DataW.trod enc Try.prog W 0 (fun _ => true) true n3 3 [b] = some z1 := by have h := hk 1 _ rfl; simpa [cells_int] using h
          obtain ⟨p, e1, _⟩ := DataW.trod_int Try.underlying3 g0
          obtain ⟨q, e2, _⟩ := DataW.trod_int Try.underlying3 g1
          cases e1
          cases e2
          exact ⟨p, q, rfl, rfl⟩
      obtain ⟨a1, a2, e1, e2⟩ := sp _ _ _ f1
      obtain ⟨a3, a4, e3, e4⟩ := sp _ _ _ f2
      cases e0
      subst e1
      subst e2
      subst e3
      subst e4
      exact ⟨⟨a0, a1, a2, a3, a4⟩, rfl⟩
theorem trod_wgs {n : Nat} {v : Value} {y : DataW H × List MemPlace} (h : DataW.trod enc Try.prog W 0 (fun _ => true) true n 23 [v] = some y) :
    ∃ (A : Option Addr) (c : Nat) (l : List Wg), v = .slice A l.length c ∧ Wgs W A l ∧ l.length ≤ c ∧ l.length ≤ 9223372036854775807 := trod_rows layWg Try.underlying23 (by kernel_rfl) elem_wg_in h
/-- The house that stands as v. -/
theorem open_house {r : Reach} {b0 : Nat} {v : Value} {d : DataW H} {p : List MemPlace} (hv : Value.okWide Try.prog W r b0 25 v) (h : DataW.Trod enc Try.prog W 0 (fun _ => true) true 25 v d p) :
    ∃ f : Hs, HsR W v f ∧ f.sized := by
  obtain ⟨cs, rfl, hsz⟩ := okWide_struct Try.underlying25 hv
  have hC : Try.prog.cellsOf 25 = 3 := by kernel_rfl
  have hC1 : Try.prog.cellsOf 23 = 1 := by kernel_rfl
  rw [hC] at hsz
  obtain ⟨l⟩ := cs
  match l, hsz with
  | [u0, u1, u2], _ =>
    obtain ⟨fuel, hf⟩ := h
    obtain ⟨ys, n, _, _, _, hyl, hg⟩ := DataW.trod_struct Try.underlying25 hf
    match ys, hyl with
    | [y0, y1, y2], _ =>
      have f0 : DataW.trod enc Try.prog W 0 (fun _ => true) true n 3 [u0] = some y0 := by have h := hg 0 _ rfl; simpa [cells_int, Value.cells] using h
      have f1 : DataW.trod enc Try.prog W 0 (fun _ => true) true n 3 [u1] = some y1 := by have h := hg 1 _ rfl; simpa [cells_int, Value.cells] using h
      have f2 : DataW.trod enc Try.prog W 0 (fun _ => true) true n 23 [u2] = some y2 := by have h := hg 2 _ rfl; simpa [hC1, cells_int, Value.cells] using h
      obtain ⟨a0, e0, _⟩ := DataW.trod_int Try.underlying3 f0
      obtain ⟨a1, e1, _⟩ := DataW.trod_int Try.underlying3 f1
      obtain ⟨A, c, l, e2, h1, g1, g2⟩ := trod_wgs f2
      cases e0
      cases e1
      subst e2
      exact ⟨⟨a0, a1, l⟩, ⟨A, c, rfl, h1, g1⟩, g2⟩
end
end Go.Proofs.Ytjnobdcbbboeeaa
