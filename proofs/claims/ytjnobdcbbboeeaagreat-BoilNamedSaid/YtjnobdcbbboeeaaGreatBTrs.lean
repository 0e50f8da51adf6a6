/- The walk of boil.Trusted. Printed by my gen_btrs.py. -/
import Derived.Test.YtjnobdcbbboeeaaGreatH9
namespace Go.Proofs.YtjnobdcbbboeeaaGreat
open Go Go.RowKit Go.Shelf
set_option linter.unusedVariables false
set_option linter.unusedSimpArgs false

def doubt (pre : List (List Int)) : Nat → Bool := fun b => pre.any fun l => memI (b : Int) l
/-- Block F is the set of Trusted. -/
def TruJ (F : Nat) (pre : List (List Int)) (W : World) : Prop := BB W F (doubt pre)
theorem doubt_nil : doubt [] = fun _ => false := rfl
theorem doubt_app (pre : List (List Int)) (l : List Int) : doubt (pre ++ [l]) = fun b => doubt pre b || memI (b : Int) l := by
  funext b; unfold doubt; rw [List.any_append]; simp
theorem doubt_upd (pre : List (List Int)) {l : List Int} {k n : Nat} (hk : l[k]? = some (n : Int)) : updB (fun b => doubt pre b || memI (b : Int) (l.take k)) n true = fun b => doubt pre b || memI (b : Int) (l.take (k + 1)) := by
  funext b
  unfold updB
  rw [List.take_add_one, hk]
  by_cases e : b = n
  · subst e
    rw [if_pos rfl]
    have : memI (b : Int) (l.take k ++ (some (b : Int)).toList) = true := mem_memI.2 (by simp)
    rw [this]; simp
  · rw [if_neg e]
    have : memI (b : Int) (l.take k ++ (some (n : Int)).toList) = memI (b : Int) (l.take k) := by
      rw [Bool.eq_iff_iff, mem_memI, mem_memI]; simp; omega
    rw [this]
def truV (h : Hs) : List Int := if checkH h ≠ 0 then [] else trustH h
def truK (h : Hs) (k : Nat) : List Int := someW (trustB h) k
theorem truK_next (h : Hs) (k : Nat) : truK h (k + 1) = truK h k ++ if trustB h k = true then [(k : Int)] else [] := by
  unfold truK; exact someW_snoc _ _
end Go.Proofs.YtjnobdcbbboeeaaGreat
