/- Dup over ratios and pairs. Printed by my gen_btrh.py. -/
import Derived.Test.YtjnobdcbbboeeaaBOwnL
import Derived.Test.YtjnobdcbbboeeaaH8
namespace Go.Proofs.Ytjnobdcbbboeeaa
open Go Go.RowKit Go.Shelf
set_option linter.unusedVariables false
set_option linter.unusedSimpArgs false

set_option maxRecDepth 100000 in
set_option maxHeartbeats 4000000 in
theorem ldup_rt (A : Option Addr) (c : Nat) (l : List (Int × Int)) (w : World) (hA : Prs w A l) (hl : l.length ≤ 1000) :
    Calls Try.prog 62 #[.slice A l.length c] w fun e w' => ∃ g c', e = .returned (.slice (some ⟨g, 0, none⟩) l.length c') ∧ w'.ownsRow w.heap.size 43 2 (.slice (some ⟨g, 0, none⟩) l.length c') l.length (layPr.rows l) ∧ Ext w w' := by
  obtain ⟨-, ⟨ti, tz, hti, htz, htsize, htby, htzs⟩, -, -⟩ := elem_rat
  have HLen : Hid ((layPr.rows l).length = l.length * 2) := layPr.rows_len l
  obtain ⟨N, hN⟩ : ∃ N : Nat, l.length = N := ⟨_, rfl⟩
  have hb2' : Hid (ti.bytes * N ≤ 281474976710656) := by unfold Hid; rw [htby]; omega
  have hm1 : Hid (N ≤ maxLen) := by unfold Hid maxLen; omega
  have H4 := hid hti
  have H5 := hid htz
  have H6 := hid htsize
  clear hti htz htsize htby htzs
  have HA := hid hA
  rw [hN] at hl HLen ⊢
  clear hN hA
  go_enter Try.func62, Try.ntmps62
  go_wp2_with (at_make; refine wpList_make_room _ rfl _ _ 26 rfl w.heap.size 43 ti tz 2 Try.underlying26 H4.out H5.out H6.out .i64 .i64 (0 : Int) (N : Int) 0 N rfl rfl rfl rfl (Nat.zero_le _) hb2'.out hm1.out (Nat.le_refl _) ?_)
  intro w5 zs5 own5 gr5
  have V5 : Ext w w5 := Ext.grown (Ext.refl _) gr5 (fun j e => by cases e)
  obtain rfl : zs5 = [] := List.eq_nil_of_length_eq_zero (by rw [own_len own5])
  have HO := hid own5
  clear own5 gr5
  go_wp2_with (at_builtin; refine wpList_append_rd2 _ rfl _ _ 26 rfl elem_rat w.heap.size _ 0 [] rfl HO.out A N c (layPr.rows l) rfl HLen.out (Rd.ext HA.out V5) (layPr.rows_one l) (by omega) V5.size ?_; intro A6 c6 w6 own6 bel6 gr6 at6)
  have gr6' : w5.grownBy w6 (Value.slice (some ⟨w.heap.size, 0, none⟩) 0 N).ownBlock := gr6
  have V6 : Ext w w6 := Ext.grown V5 gr6' (fun j e => by cases e; exact Nat.le_refl _)
  obtain ⟨g, rfl⟩ : ∃ g, A6 = some ⟨g, 0, none⟩ := by
    rcases own6.2 with ⟨h1, -⟩ | ⟨g2, cap, cur, e1, -⟩
    · injection h1 with h2
      subst h2
      rcases at6 with h | h <;> cases h
    · cases e1; exact ⟨g2, rfl⟩
  simp only [Nat.zero_add, List.nil_append] at own6 ⊢
  go_ret
  exact ⟨g, c6, rfl, own6, V6⟩
end Go.Proofs.Ytjnobdcbbboeeaa
