/- Eq over equal rows, same, great, wide, theirs and paired of the laws that compare. Printed by my gen_bcmp.py. -/
import Derived.Test.YtjnobdcbbboeeaaGreatBOwnL
import Derived.Test.YtjnobdcbbboeeaaGreatH2
import Derived.Test.YtjnobdcbbboeeaaGreatBTru2
import Derived.Laws.StructEq
namespace Go.Proofs.YtjnobdcbbboeeaaGreat
open Go Go.RowKit Go.Shelf
set_option linter.unusedVariables false
set_option linter.unusedSimpArgs false

theorem own_neC {w : World} {base e size n : Nat} {v : Value} {xs : List Value} {X : Nat} {cs : Array Value} {t : TypeId} {m : Nat × Nat} (h : w.ownsRow base e size v n xs) (hX : w.heap[X]? = some (.cells cs t m)) (hne : t ≠ e) : v.ownBlock ≠ some X := by
  intro hq
  rcases h.2 with ⟨rfl, _⟩ | ⟨g, cap, cur, rfl, _, hg, _⟩
  · cases hq
  · cases hq
    rw [hX] at hg
    cases hg
    exact hne rfl
theorem run_ne_rt (w : World) (x y : Int) : (binOp .neq 63 (.agg #[.int .i64 x, .int .i64 y]) (.agg #[.int .i64 x, .int .i64 y])).run Tryz.prog w = .ok (.bool false) w := by
  have ht : Tryz.prog.underlying 63 = some (.struct (Tryz.prog.fieldsOf 63)) := by kernel_rfl
  have hp : Tryz.prog.stoodInHeld 63 = false := by kernel_rfl
  rw [run_neq_struct, run_equalIn_agg w _ _ _ _ ht hp]
  have hu := Tryz.underlying3
  simp [Program.fieldsOf, Tryz.underlying63, Op.eqFields, go_sem, hu]

theorem run_ne_bp (w : World) (x y : Int) : (binOp .neq 43 (.agg #[.int .i64 x, .int .i64 y]) (.agg #[.int .i64 x, .int .i64 y])).run Tryz.prog w = .ok (.bool false) w := by
  have ht : Tryz.prog.underlying 43 = some (.struct (Tryz.prog.fieldsOf 43)) := by kernel_rfl
  have hp : Tryz.prog.stoodInHeld 43 = false := by kernel_rfl
  rw [run_neq_struct, run_equalIn_agg w _ _ _ _ ht hp]
  have hu := Tryz.underlying3
  simp [Program.fieldsOf, Tryz.underlying43, Op.eqFields, go_sem, hu]

theorem run_ne_wg (w : World) (a b c d e : Int) : (binOp .neq 67 (.agg #[.int .i64 a, .int .i64 b, .int .i64 c, .int .i64 d, .int .i64 e]) (.agg #[.int .i64 a, .int .i64 b, .int .i64 c, .int .i64 d, .int .i64 e])).run Tryz.prog w = .ok (.bool false) w := by
  have ht : Tryz.prog.underlying 67 = some (.struct (Tryz.prog.fieldsOf 67)) := by kernel_rfl
  have hp : Tryz.prog.stoodInHeld 67 = false := by kernel_rfl
  rw [run_neq_struct, run_equalIn_agg w _ _ _ _ ht hp]
  have hu := Tryz.underlying3
  simp [Program.fieldsOf, Tryz.underlying67, Tryz.underlying65, Op.eqFields, go_sem, hu]

theorem hs_len_cell (w : World) (h : Hs) (T : TypeId) (A : Option Addr) (c : Nat) : (w.alloc (.cells #[.int .i64 h.mo, .int .i64 h.pk, .slice A h.ws.length c] T)).cell? ⟨w.heap.size, 2, none⟩ = some (.slice A h.ws.length c) := by simp [go_sem]
end Go.Proofs.YtjnobdcbbboeeaaGreat
