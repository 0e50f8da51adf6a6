/- slices.Sort over numbers: what the kit's shelf says of it, in one contract. Printed by my gen_srt.py. -/
import Derived.Shelf.SortM.Plain
import Derived.Shelf.SortM.SortNone
import Derived.Sort.OwnSortedInts
import Derived.Test.YtjnobdcbbboeeaaGreatH1
import Derived.Test.YtjnobdcbbboeeaaGreatProg
namespace Go.Proofs.YtjnobdcbbboeeaaGreat
open Go Go.RowKit Go.Shelf Go.Sort
set_option linter.unusedVariables false
set_option linter.unusedSimpArgs false

def srtRen : Ren where
  f := fun | 5 => 22 | 7 => 54 | 8 => 55 | 10 => 77 | 11 => 78 | 12 => 79 | 13 => 80 | 14 => 81 | 15 => 82 | 16 => 43 | 17 => 83 | 18 => 84 | 19 => 85 | 20 => 86 | 30 => 95 | 31 => 96 | 32 => 97 | 33 => 98 | 34 => 99 | 35 => 75 | 40 => 109 | n => n
  t := fun | 0 => 0 | 3 => 3 | 4 => 4 | 5 => 5 | 9 => 9 | 22 => 31 | 23 => 31 | 25 => 3 | 32 => 101 | 35 => 123 | 36 => 124 | 41 => 128 | 44 => 70 | 46 => 132 | 53 => 137 | 57 => 141 | 63 => 149 | 64 => 150 | n => n
  g := fun n => n
theorem srt_lays : SlLaysM.n5 Tryz.prog srtRen where
  mixed := by kernel_rfl
  f5 := ⟨"slices.Sort[[]int,int]", by decide, by kernel_rfl⟩
  f7 := ⟨"slices.pdqsortOrdered[int]", by decide, by kernel_rfl⟩
  f8 := by kernel_rfl
  f10 := ⟨"slices.insertionSortOrdered[int]", by decide, by kernel_rfl⟩
  f11 := ⟨"slices.heapSortOrdered[int]", by decide, by kernel_rfl⟩
  f12 := ⟨"slices.breakPatternsOrdered[int]", by decide, by kernel_rfl⟩
  f13 := ⟨"slices.choosePivotOrdered[int]", by decide, by kernel_rfl⟩
  f14 := ⟨"slices.reverseRangeOrdered[int]", by decide, by kernel_rfl⟩
  f15 := ⟨"slices.partialInsertionSortOrdered[int]", by decide, by kernel_rfl⟩
  f16 := ⟨"cmp.Less[int]", by decide, by kernel_rfl⟩
  f17 := ⟨"slices.partitionEqualOrdered[int]", by decide, by kernel_rfl⟩
  f18 := ⟨"slices.partitionOrdered[int]", by decide, by kernel_rfl⟩
  f19 := by kernel_rfl
  f20 := by kernel_rfl
  f30 := ⟨"slices.siftDownOrdered[int]", by decide, by kernel_rfl⟩
  f31 := by kernel_rfl
  f32 := by kernel_rfl
  f33 := ⟨"slices.medianAdjacentOrdered[int]", by decide, by kernel_rfl⟩
  f34 := ⟨"slices.medianOrdered[int]", by decide, by kernel_rfl⟩
  f35 := ⟨"cmp.isNaN[int]", by decide, by kernel_rfl⟩
  f40 := ⟨"slices.order2Ordered[int]", by decide, by kernel_rfl⟩
  t0 := by kernel_rfl
  a0 := fun w => by kernel_rfl
  z0 := fun w => by kernel_rfl
  v0 := fun w => by kernel_rfl
  t3 := by kernel_rfl
  a3 := fun w => by kernel_rfl
  z3 := fun w => by kernel_rfl
  v3 := fun w => by kernel_rfl
  t4 := by kernel_rfl
  a4 := fun w => by kernel_rfl
  z4 := fun w => by kernel_rfl
  v4 := fun w => by kernel_rfl
  t5 := by kernel_rfl
  a5 := fun w => by kernel_rfl
  z5 := fun w => by kernel_rfl
  v5 := fun w => by kernel_rfl
  t9 := by kernel_rfl
  a9 := fun w => by kernel_rfl
  z9 := fun w => by kernel_rfl
  v9 := fun w => by kernel_rfl
  t22 := by kernel_rfl
  a22 := fun w => by kernel_rfl
  z22 := fun w => by kernel_rfl
  v22 := fun w => by kernel_rfl
  t23 := by kernel_rfl
  a23 := fun w => by kernel_rfl
  z23 := fun w => by kernel_rfl
  v23 := fun w => by kernel_rfl
  t25 := by kernel_rfl
  a25 := fun w => by kernel_rfl
  z25 := fun w => by kernel_rfl
  v25 := fun w => by kernel_rfl
  t32 := by kernel_rfl
  a32 := fun w => by kernel_rfl
  z32 := fun w => by kernel_rfl
  v32 := fun w => by kernel_rfl
  t35 := by kernel_rfl
  a35 := fun w => by kernel_rfl
  z35 := fun w => by kernel_rfl
  v35 := fun w => by kernel_rfl
  t36 := by kernel_rfl
  a36 := fun w => by kernel_rfl
  z36 := fun w => by kernel_rfl
  v36 := fun w => by kernel_rfl
  t41 := by kernel_rfl
  a41 := fun w => by kernel_rfl
  z41 := fun w => by kernel_rfl
  v41 := fun w => by kernel_rfl
  t44 := by kernel_rfl
  a44 := fun w => by kernel_rfl
  z44 := fun w => by kernel_rfl
  v44 := fun w => by kernel_rfl
  t46 := by kernel_rfl
  a46 := fun w => by kernel_rfl
  z46 := fun w => by kernel_rfl
  v46 := fun w => by kernel_rfl
  t53 := by kernel_rfl
  a53 := fun w => by kernel_rfl
  z53 := fun w => by kernel_rfl
  v53 := fun w => by kernel_rfl
  t57 := by kernel_rfl
  a57 := fun w => by kernel_rfl
  z57 := fun w => by kernel_rfl
  v57 := fun w => by kernel_rfl
  t63 := by kernel_rfl
  a63 := fun w => by kernel_rfl
  z63 := fun w => by kernel_rfl
  v63 := fun w => by kernel_rfl
  t64 := by kernel_rfl
  a64 := fun w => by kernel_rfl
  z64 := fun w => by kernel_rfl
  v64 := fun w => by kernel_rfl
def sortI (l : List Int) : List Int := l.mergeSort fun x y => decide (x ≤ y)
theorem sortI_perm (l : List Int) : (sortI l).Perm l := List.mergeSort_perm _ _
theorem sortI_len (l : List Int) : (sortI l).length = l.length := (sortI_perm l).length_eq
theorem sortI_le (l : List Int) : (sortI l).Pairwise (· ≤ ·) := by
  have := List.pairwise_mergeSort (le := fun x y : Int => decide (x ≤ y)) (fun a b c h1 h2 => by rw [decide_eq_true_eq] at *; omega) (fun a b => by rcases Int.le_total a b with h | h <;> simp [h]) l
  exact this.imp fun h => by simpa using h
/-- The sort turns the row's own block alone. -/
theorem sortI_any (w0 : World) (B g cap : Nat) (l : List Int) (w : World) (hown : w.ownsRow B 3 1 (.slice (some ⟨g, 0, none⟩) l.length cap) l.length (l.map (.int .i64))) (hB : w0.heap.size ≤ B) (hx : Ext w0 w) (hl : l.length ≤ 1000000) :
    Calls Tryz.prog 22 #[.slice (some ⟨g, 0, none⟩) l.length cap] w fun e w' =>
      e = .returned (.tuple #[]) ∧ w'.ownsRow B 3 1 (.slice (some ⟨g, 0, none⟩) l.length cap) l.length ((sortI l).map (.int .i64)) ∧ Ext w0 w' := by
  rcases hown.2 with ⟨h1, -⟩ | ⟨g', cap', cur, e0, hb, hg, hn, hm, hs, ht⟩
  · cases h1
  · cases e0
    rw [Nat.mul_one] at ht
    have hH : Holds (Value.int .i64) w g 0 l.toArray := holds_of_blockI hg ht
    have K := AnyM.slices_Sort_int (P := Tryz.prog) srt_lays g 0 cap l w hH (Array.getElem?_eq_some_iff.1 hg).1 (by omega)
    refine Calls.mono (by exact K) ?_
    rintro e w' ⟨rfl, n, os, rfl⟩
    exact ⟨rfl, ownsRow_sortedI (sortI_len l) hb hg hn hm hs, Ext.grown hx (grownBy_sortedI _) (fun k e => by cases e; omega)⟩
/-- .. and nothing where there is none. -/
theorem sortI_none (p : Option Addr) (cap : Nat) (w : World) : Calls Tryz.prog 22 #[.slice p 0 cap] w fun e w' => e = .returned (.tuple #[]) ∧ w' = w :=
  AnyM.slices_Sort_int_none srt_lays p cap w
end Go.Proofs.YtjnobdcbbboeeaaGreat
