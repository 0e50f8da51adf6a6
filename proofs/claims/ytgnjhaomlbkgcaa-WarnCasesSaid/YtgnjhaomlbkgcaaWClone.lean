/- slices.Clone over the three kinds. Printed by gen_slices.py. -/
import Derived.Test.YtgnjhaomlbkgcaaProg
import Derived.Test.YtgnjhaomlbkgcaaWBase
namespace Go.Proofs.Ytgnjhaomlbkgcaa
open Go Go.RowKit
set_option linter.unusedVariables false
set_option linter.unusedSimpArgs false

theorem elem_int : ElemOK Try.prog 27 3 1 8 := by
  refine ⟨Try.underlying27, ?_, by decide, by decide⟩
  have h : ((Try.prog.info? 3).bind fun i => i.zero.map fun z => (i.size, i.bytes, z.cells.size)) = some (1, 8, 1) := by kernel_rfl
  cases hi : Try.prog.info? 3 with
  | none => rw [hi] at h; cases h
  | some i =>
    rw [hi] at h
    cases hz : i.zero with
    | none => simp [hz] at h
    | some z => simp [hz] at h; exact ⟨i, z, rfl, hz, h.1, h.2.1, h.2.2⟩

set_option maxHeartbeats 1000000 in
theorem clone_int (A : Option Addr) (c : Nat) (l : List Int) (w : World) (hA : Ints w A l) (hl : l.length * 8 ≤ 140737488355328) :
    Calls Try.prog 92 #[.slice A l.length c] w fun e w' => ∃ A' c', e = .returned (.slice A' l.length c') ∧
      w'.ownsRow w.heap.size 3 1 (.slice A' l.length c') l.length (l.map (Value.int .i64)) ∧ (A' = none ↔ A = none) ∧ Ext w w' := by
  have q : ∀ (w : World) (a : Option Addr) (n c n' c' : Nat), (binOp .eql 27 (.slice a n c) (.slice none n' c')).run Try.prog w = .ok (.bool a.isNone) w := fun w a n c n' c' => Lib.run_eql_slice_nil w _ _ a n c n' c' Try.underlying27
  have H1 := hid (ints_len l)
  have H2 := hid hA
  have H3 := hid (ints_one l)
  cases A with
  | none =>
    have hnil : (l.map (Value.int .i64)) = [] := by
      rcases H2.out with h | ⟨b, off, h, _⟩
      · exact h
      · cases h
    have h0 : l.length = 0 := by have := H1.out; rw [hnil] at this; simp only [List.length_nil] at this; omega
    have H4 := hid hnil
    clear hnil
    have H5 := hid h0
    clear h0
    go_enter Try.func92, Try.ntmps92
    go_wp2
    go_ret
    refine ⟨none, 0, ret_of (by rw [H5.out]; rfl), ?_, by simp, Ext.refl w⟩
    rw [H4.out, H5.out]
    exact own_nil _ _ _ _
  | some ad =>
    go_enter Try.func92, Try.ntmps92
    go_wp2_with (at_builtin; refine wpList_append_rd _ rfl _ _ 27 rfl elem_int w.heap.size _ _ _ rfl (World.ownsRow_made w #[] 0 (Nat.le_refl _) (Nat.zero_le _) (by simp)) (some ad) l.length c (l.map (Value.int .i64)) rfl ?qc1 ?qc2 ?qc3 ?qc4 ?qc5 ?_)
    case qc1 => have := H1.out; omega
    case qc2 => exact Rd.ext H2.out (Ext.alloc (Ext.refl w) _)
    case qc3 => exact H3.out
    case qc4 => rw [Nat.zero_add]; exact hl
    case qc5 => simp
    intro A' c' w1 hown hbel hgrow hnil
    have HN := hid hnil
    clear hnil
    go_wp2
    go_ret
    refine ⟨A', c', ret_of (by simp), by simpa using hown, ?_, Below.trans (Below.alloc (Below.refl _ w) (Nat.le_refl _) _) hbel⟩
    simp [HN.out]

theorem elem_bound : ElemOK Try.prog 23 35 3 24 := by
  refine ⟨Try.underlying23, ?_, by decide, by decide⟩
  have h : ((Try.prog.info? 35).bind fun i => i.zero.map fun z => (i.size, i.bytes, z.cells.size)) = some (3, 24, 3) := by kernel_rfl
  cases hi : Try.prog.info? 35 with
  | none => rw [hi] at h; cases h
  | some i =>
    rw [hi] at h
    cases hz : i.zero with
    | none => simp [hz] at h
    | some z => simp [hz] at h; exact ⟨i, z, rfl, hz, h.1, h.2.1, h.2.2⟩

set_option maxHeartbeats 1000000 in
theorem clone_bound (A : Option Addr) (c : Nat) (l : List Bd) (w : World) (hA : Bounds w A l) (hl : l.length * 24 ≤ 140737488355328) :
    Calls Try.prog 126 #[.slice A l.length c] w fun e w' => ∃ A' c', e = .returned (.slice A' l.length c') ∧
      w'.ownsRow w.heap.size 35 3 (.slice A' l.length c') l.length (bcells l) ∧ (A' = none ↔ A = none) ∧ Ext w w' := by
  have q : ∀ (w : World) (a : Option Addr) (n c n' c' : Nat), (binOp .eql 23 (.slice a n c) (.slice none n' c')).run Try.prog w = .ok (.bool a.isNone) w := fun w a n c n' c' => Lib.run_eql_slice_nil w _ _ a n c n' c' Try.underlying23
  have H1 := hid (bcells_len l)
  have H2 := hid hA
  have H3 := hid (bcells_one l)
  cases A with
  | none =>
    have hnil : (bcells l) = [] := by
      rcases H2.out with h | ⟨b, off, h, _⟩
      · exact h
      · cases h
    have h0 : l.length = 0 := by have := H1.out; rw [hnil] at this; simp only [List.length_nil] at this; omega
    have H4 := hid hnil
    clear hnil
    have H5 := hid h0
    clear h0
    go_enter Try.func126, Try.ntmps126
    go_wp2
    go_ret
    refine ⟨none, 0, ret_of (by rw [H5.out]; rfl), ?_, by simp, Ext.refl w⟩
    rw [H4.out, H5.out]
    exact own_nil _ _ _ _
  | some ad =>
    go_enter Try.func126, Try.ntmps126
    go_wp2_with (at_builtin; refine wpList_append_rd _ rfl _ _ 23 rfl elem_bound w.heap.size _ _ _ rfl (World.ownsRow_made w #[] 0 (Nat.le_refl _) (Nat.zero_le _) (by simp)) (some ad) l.length c (bcells l) rfl ?qc1 ?qc2 ?qc3 ?qc4 ?qc5 ?_)
    case qc1 => have := H1.out; omega
    case qc2 => exact Rd.ext H2.out (Ext.alloc (Ext.refl w) _)
    case qc3 => exact H3.out
    case qc4 => rw [Nat.zero_add]; exact hl
    case qc5 => simp
    intro A' c' w1 hown hbel hgrow hnil
    have HN := hid hnil
    clear hnil
    go_wp2
    go_ret
    refine ⟨A', c', ret_of (by simp), by simpa using hown, ?_, Below.trans (Below.alloc (Below.refl _ w) (Nat.le_refl _) _) hbel⟩
    simp [HN.out]

theorem elem_claim : ElemOK Try.prog 24 37 2 32 := by
  refine ⟨Try.underlying24, ?_, by decide, by decide⟩
  have h : ((Try.prog.info? 37).bind fun i => i.zero.map fun z => (i.size, i.bytes, z.cells.size)) = some (2, 32, 2) := by kernel_rfl
  cases hi : Try.prog.info? 37 with
  | none => rw [hi] at h; cases h
  | some i =>
    rw [hi] at h
    cases hz : i.zero with
    | none => simp [hz] at h
    | some z => simp [hz] at h; exact ⟨i, z, rfl, hz, h.1, h.2.1, h.2.2⟩

set_option maxHeartbeats 1000000 in
theorem clone_claim (A : Option Addr) (c : Nat) (l : List Cl) (w : World) (xs : List Value) (hA : Rd w A xs) (hx : ClC w xs l) (hl : l.length * 32 ≤ 140737488355328) :
    Calls Try.prog 141 #[.slice A l.length c] w fun e w' => ∃ A' c', e = .returned (.slice A' l.length c') ∧
      w'.ownsRow w.heap.size 37 2 (.slice A' l.length c') l.length xs ∧ (A' = none ↔ A = none) ∧ Ext w w' := by
  have q : ∀ (w : World) (a : Option Addr) (n c n' c' : Nat), (binOp .eql 24 (.slice a n c) (.slice none n' c')).run Try.prog w = .ok (.bool a.isNone) w := fun w a n c n' c' => Lib.run_eql_slice_nil w _ _ a n c n' c' Try.underlying24
  have H1 := hid hx.len
  have H2 := hid hA
  have H3 := hid hx.one
  cases A with
  | none =>
    have hnil : xs = [] := by
      rcases H2.out with h | ⟨b, off, h, _⟩
      · exact h
      · cases h
    have h0 : l.length = 0 := by have := H1.out; rw [hnil] at this; simp only [List.length_nil] at this; omega
    have H4 := hid hnil
    clear hnil
    have H5 := hid h0
    clear h0
    go_enter Try.func141, Try.ntmps141
    go_wp2
    go_ret
    refine ⟨none, 0, ret_of (by rw [H5.out]; rfl), ?_, by simp, Ext.refl w⟩
    rw [H4.out, H5.out]
    exact own_nil _ _ _ _
  | some ad =>
    go_enter Try.func141, Try.ntmps141
    go_wp2_with (at_builtin; refine wpList_append_rd _ rfl _ _ 24 rfl elem_claim w.heap.size _ _ _ rfl (World.ownsRow_made w #[] 0 (Nat.le_refl _) (Nat.zero_le _) (by simp)) (some ad) l.length c xs rfl ?qc1 ?qc2 ?qc3 ?qc4 ?qc5 ?_)
    case qc1 => have := H1.out; omega
    case qc2 => exact Rd.ext H2.out (Ext.alloc (Ext.refl w) _)
    case qc3 => exact H3.out
    case qc4 => rw [Nat.zero_add]; exact hl
    case qc5 => simp
    intro A' c' w1 hown hbel hgrow hnil
    have HN := hid hnil
    clear hnil
    go_wp2
    go_ret
    refine ⟨A', c', ret_of (by simp), by simpa using hown, ?_, Below.trans (Below.alloc (Below.refl _ w) (Nat.le_refl _) _) hbel⟩
    simp [HN.out]
end Go.Proofs.Ytgnjhaomlbkgcaa
