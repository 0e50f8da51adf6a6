/- What every claim of this seat needs of the rows: how a slice of bytes that came in reads. -/
import Derived.Test.YtjnobdcbbboeeaaGreatRows
import Derived.Test.YtjnobdcbbboeeaaGreatBHeap
import Derived.WalkKit
import Derived.ProofKit
import Derived.OpenShut
import Derived.ShutString
import Derived.ChangeOld
import Derived.Below
namespace Go.Proofs.YtjnobdcbbboeeaaGreat
open Go Go.RowKit
set_option linter.unusedVariables false
set_option linter.unusedSimpArgs false

theorem lOwn : ownKnob Tryz.prog.godebug = none := by kernel_rfl
theorem lLaid : laidOutB Tryz.prog = true := by kernel_rfl
/-- A slice of integers that came in: nil, or a row of numbers, each fitting its kind. -/
def IsRow (k : IntKind) (w : World) (a : Option Addr) (len cap : Nat) (zs : List Int) : Prop :=
  (a = none ∧ len = 0 ∧ cap = 0 ∧ zs = []) ∨
  ∃ x, a = some x ∧ len ≤ cap ∧ cap ≤ maxLen ∧ zs.length = cap ∧ (∀ i, i < zs.length → w.cell? (x.add i) = some (.int k (zs.getD i 0))) ∧ ∀ n ∈ zs, (Lit.int k n).wf = true
theorem wf_u8 {n : Int} (h : (Lit.int .u8 n).wf = true) : 0 ≤ n ∧ n ≤ 255 := by
  have h1 : (decide (0 ≤ n) && decide (n ≤ 255)) = true := h
  simpa using h1
theorem wf_u16 {n : Int} (h : (Lit.int .u16 n).wf = true) : 0 ≤ n ∧ n ≤ 65535 := by
  have h1 : (decide (0 ≤ n) && decide (n ≤ 65535)) = true := h
  simpa using h1
/-- The bytes that a slice shows. -/
theorem IsRow.bytes {w : World} {a : Option Addr} {len cap : Nat} {zs : List Int} (h : IsRow .u8 w a len cap zs) :
    ∃ l : List Int, l.length = len ∧ Bytes w a l ∧ (∀ x ∈ l, 0 ≤ x ∧ x ≤ 255) ∧ (∀ x, a = some x → l = [] ∨ x.block < w.heap.size) ∧ l.length ≤ 9223372036854775807 := by
  rcases h with ⟨rfl, rfl, rfl, rfl⟩ | ⟨x, rfl, hl, hm, hz, hcell, hw⟩
  · exact ⟨[], rfl, .inl rfl, by simp, by simp, by simp⟩
  · simp only [maxLen] at hm
    refine ⟨zs.take len, by simp; omega, ?_, fun n hn => wf_u8 (hw n (List.mem_of_mem_take hn)), fun y hy => ?_, by simp; omega⟩
    rotate_left
    · cases hy
      by_cases h0 : len = 0
      · left; rw [h0]; rfl
      · right
        have hc := hcell 0 (by omega)
        have := World.block_lt_of_cell? w _ hc
        simpa [Addr.add] using this
    by_cases h0 : len = 0
    · subst h0; exact .inl (by simp)
    · obtain ⟨b, off, spot⟩ := x
      have hc := hcell 0 (by omega)
      have hspot : spot = none := by simpa [Addr.add] using World.cell?_spot hc
      subst hspot
      refine .inr ⟨b, off, rfl, fun j u hu => ?_⟩
      have hj : j < (zs.take len).length := by have := (List.getElem?_eq_some_iff.1 hu).1; simpa using this
      have hj2 : j < len := by simp at hj; omega
      have hc2 := hcell j (by omega)
      rw [Addr.add_lit] at hc2
      rw [hc2, ← hu]
      have hjz : j < zs.length := by omega
      simp [List.getElem?_take, hj2, List.getD, List.getElem?_eq_getElem hjz]
end Go.Proofs.YtjnobdcbbboeeaaGreat
