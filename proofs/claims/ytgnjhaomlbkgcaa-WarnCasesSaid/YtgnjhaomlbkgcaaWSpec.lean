/- What layer 10 computes, as plain functions. No program stands here. -/
import Derived.Test.YtgnjhaomlbkgcaaWBase
namespace Go.Proofs.Ytgnjhaomlbkgcaa
open Go Go.RowKit
set_option linter.unusedVariables false
set_option linter.unusedSimpArgs false

def inB (n lo hi : Int) : Bool := decide (lo ≤ n) && decide (n ≤ hi)
theorem inB_iff {n lo hi : Int} : inB n lo hi = true ↔ lo ≤ n ∧ n ≤ hi := by simp [inB]
theorem inB_not {n lo hi : Int} : inB n lo hi = false ↔ ¬ (lo ≤ n ∧ n ≤ hi) := by rw [← inB_iff]; cases inB n lo hi <;> simp

def Cs.all (c : Cs) : List Bd := c.bs ++ c.cl.flatMap (·.bs)
def limOK (l : List Bd) : Bool := l.all fun b => inB b.m (-1000) 1000
def evOK (ev : Int) (l : List Bd) : Bool := l.all fun b => inB b.f 0 (ev - 1) && inB b.t 0 (ev - 1)
def diffOK (l : List Bd) : Bool := l.all fun b => b.f != b.t
def eachOK (l : List Cl) : Bool := l.all fun x => decide (x.bs.length ≤ 4)
def witOK (wi : Int) (l : List Cl) : Bool := l.all fun x => inB x.w 0 (wi - 1)
def manyOK (c : Cs) : Bool := inB c.ev 1 8 && decide (c.bs.length ≤ 20) && inB c.wi 0 6 && decide (c.cl.length ≤ 8) && eachOK c.cl
/-- The error of bounds among so many events: 3, 1 or 0. -/
def bdsC (ev : Int) (l : List Bd) : Int := if !limOK l then 3 else if !evOK ev l then 1 else 0
def checkC (c : Cs) : Int :=
  if !manyOK c then 2 else if bdsC c.ev c.all == 3 then 3 else if bdsC c.ev c.all != 0 || !witOK c.wi c.cl then 1 else if !diffOK c.all then 5 else 0

theorem checkC_many {c : Cs} (h : manyOK c = false) : checkC c = 2 := by simp [checkC, h]
theorem manyOK_parts {c : Cs} (h : manyOK c = true) : 1 ≤ c.ev ∧ c.ev ≤ 8 ∧ c.bs.length ≤ 20 ∧ 0 ≤ c.wi ∧ c.wi ≤ 6 ∧ c.cl.length ≤ 8 ∧ ∀ x ∈ c.cl, x.bs.length ≤ 4 := by
  simp only [manyOK, Bool.and_eq_true, inB_iff, decide_eq_true_eq, eachOK, List.all_eq_true] at h
  obtain ⟨⟨⟨⟨⟨h1, h2⟩, h3⟩, h4, h5⟩, h6⟩, h7⟩ := h
  exact ⟨h1, h2, h3, h4, h5, h6, h7⟩
theorem flat_len (l : List Cl) (h : ∀ x ∈ l, x.bs.length ≤ 4) : (l.flatMap (·.bs)).length ≤ l.length * 4 := by
  induction l with
  | nil => simp
  | cons x l ih =>
    have h1 := h x (by simp)
    have h2 := ih (fun y hy => h y (by simp [hy]))
    simp only [List.flatMap_cons, List.length_append, List.length_cons]
    omega
theorem all_len {c : Cs} (h : manyOK c = true) : c.all.length ≤ 52 := by
  obtain ⟨_, _, h3, _, _, h6, h7⟩ := manyOK_parts h
  have := flat_len c.cl h7
  simp only [Cs.all, List.length_append]
  omega
theorem checkC_ok {c : Cs} (h : checkC c = 0) : manyOK c = true ∧ limOK c.all = true ∧ evOK c.ev c.all = true ∧ witOK c.wi c.cl = true ∧ diffOK c.all = true := by
  unfold checkC bdsC at h
  cases h1 : manyOK c <;> cases h2 : limOK c.all <;> cases h3 : evOK c.ev c.all <;> cases h4 : witOK c.wi c.cl <;> cases h5 : diffOK c.all <;> simp_all
end Go.Proofs.Ytgnjhaomlbkgcaa
