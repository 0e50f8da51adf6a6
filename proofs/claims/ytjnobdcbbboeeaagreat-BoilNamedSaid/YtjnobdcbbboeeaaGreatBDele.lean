/- slices.Delete of one number out of an own row: what the kit's shelf says of it, in one contract; lists but for one of their numbers. -/
import Derived.Shelf.Slices.Delete
import Derived.Lib.OwnBridge
import Derived.Test.YtjnobdcbbboeeaaGreatH1
import Derived.Test.YtjnobdcbbboeeaaGreatProg
namespace Go.Proofs.YtjnobdcbbboeeaaGreat
open Go Go.RowKit Go.Shelf
set_option linter.unusedVariables false
set_option linter.unusedSimpArgs false

def delRen : Ren where
  f := fun | 23 => 21 | n => n
  t := fun | 0 => 0 | 3 => 3 | 4 => 4 | 22 => 31 | n => n
  g := fun n => n
theorem del_lays : Lays2.n23 Tryz.prog delRen where
  mixed := by kernel_rfl
  f23 := by kernel_rfl
  t0 := by kernel_rfl
  a0 := fun w => by kernel_rfl
  z0 := fun w => by kernel_rfl
  v0 := fun w => by kernel_rfl
  t3 := by kernel_rfl
  a3 := fun w => by kernel_rfl
  z3 := fun w => by kernel_rfl
  v3 := fun w => by kernel_rfl
  t4 := by kernel_rfl
  a4 := fun w => by kernel_rfl
  z4 := fun w => by kernel_rfl
  v4 := fun w => by kernel_rfl
  t22 := by kernel_rfl
  a22 := fun w => by kernel_rfl
  z22 := fun w => by kernel_rfl
  v22 := fun w => by kernel_rfl
  i3 := by kernel_rfl
theorem erase_take (l : List Int) {i : Nat} (hi : i < l.length) : (l.take i ++ l.drop (i + 1) ++ List.replicate 1 0).take (l.length - 1) = l.eraseIdx i := by
  rw [List.eraseIdx_eq_take_drop_succ]
  exact List.take_left' (by simp; omega)
/-- What Delete leaves of a row of the call's own. -/
theorem delete_any (w0 : World) (g cap i : Nat) (l : List Int) (w : World) (hown : w.ownsRow w0.heap.size 3 1 (.slice (some ⟨g, 0, none⟩) l.length cap) l.length (l.map (.int .i64))) (hx : Ext w0 w) (hi : i < l.length) :
    Calls Tryz.prog 21 #[.slice (some ⟨g, 0, none⟩) l.length cap, .int .i64 (i : Int), .int .i64 ((i : Int) + 1)] w fun e w' =>
      e = .returned (.slice (some ⟨g, 0, none⟩) (l.eraseIdx i).length cap) ∧ w'.ownsRow w0.heap.size 3 1 (.slice (some ⟨g, 0, none⟩) (l.eraseIdx i).length cap) (l.eraseIdx i).length ((l.eraseIdx i).map (.int .i64)) ∧ Ext w0 w' := by
  have hlen : (l.eraseIdx i).length = l.length - 1 := by rw [List.length_eraseIdx, if_pos hi]
  obtain ⟨g', cap', e, h1, h2, h3, h4, h5, h6⟩ := Go.Lib.holds_of_ownsRow hown (by simp)
  simp only [Value.slice.injEq, Option.some.injEq, Addr.mk.injEq, and_true, true_and] at e
  obtain ⟨rfl, rfl⟩ := e
  have K := Any.slices_Delete_int (P := Tryz.prog) del_lays g 0 cap i (i + 1) l w h6 h3 (by unfold maxLen at h4; omega) (by omega) (by omega)
  refine Calls.mono (by exact K) ?_
  rintro e w' ⟨rfl, q, rfl⟩
  rw [hlen]
  rw [show i + 1 - i = 1 by omega]
  refine ⟨rfl, ?_, Go.Lib.below_putRow hx h1⟩
  have := Go.Lib.ownsRow_putRow (q := q) (k := l.length - 1) hown (ys := l.take i ++ l.drop (i + 1) ++ List.replicate 1 0) (by simp; omega) (by omega)
  rw [erase_take l hi] at this
  exact this
end Go.Proofs.YtjnobdcbbboeeaaGreat
