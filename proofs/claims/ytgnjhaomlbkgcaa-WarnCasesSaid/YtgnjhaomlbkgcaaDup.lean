/- laurelkit.Dup over bounds, claims and numbers: a row of its own. Printed by my gen_dup.py. -/
import Derived.Test.YtgnjhaomlbkgcaaWClone
import Derived.Test.YtgnjhaomlbkgcaaApp2
import Derived.OwnWalk
namespace Go.Proofs.Ytgnjhaomlbkgcaa
open Go Go.RowKit
set_option linter.unusedVariables false
set_option linter.unusedSimpArgs false

theorem own_at {w : World} {base e size n c : Nat} {A : Option Addr} {xs : List Value} (h : w.ownsRow base e size (.slice A n c) n xs) (hA : A ≠ none) : ∃ g, A = some ⟨g, 0, none⟩ := by
  rcases h.2 with ⟨h, _⟩ | ⟨g, cap, cur, h, _⟩
  · cases h; exact absurd rfl hA
  · cases h; exact ⟨g, rfl⟩

set_option maxHeartbeats 1000000 in
theorem dup_bound (A : Option Addr) (c : Nat) (l : List Bd) (w : World) (hA : Bounds w A l) (hl : l.length * 24 ≤ 140737488355328) :
    Calls Try.prog 75 #[.slice A l.length c] w fun e w' => ∃ g c', e = .returned (.slice (some ⟨g, 0, none⟩) l.length c') ∧ w'.ownsRow w.heap.size 35 3 (.slice (some ⟨g, 0, none⟩) l.length c') l.length (bcells l) ∧ Ext w w' := by
  obtain ⟨_, ⟨i, z, hi, hz, hsize, hby, hzs⟩, _, _⟩ := elem_bound
  have hm : l.length ≤ maxLen := by simp only [maxLen]; omega
  have hb2 : i.bytes * l.length ≤ 281474976710656 := by rw [hby]; omega
  have H2 := hid hm
  have H3 := hid hb2
  have H4 := hid hi
  have H5 := hid hz
  have H6 := hid hsize
  have HL := hid (bcells_len l)
  clear hm hb2 hi hz hsize hby hzs
  go_enter Try.func75, Try.ntmps75
  go_wp2_with (at_make; refine wpList_make_own _ rfl _ _ 23 rfl w.heap.size 35 i z 3 Try.underlying23 H4.out H5.out H6.out .i64 .i64 _ l.length rfl rfl rfl H3.out H2.out (Nat.le_refl _) ?_)
  intro w1 hown1 hgr1
  have hx1 : Ext w w1 := Ext.grown (Ext.refl w) hgr1 (fun k e => by cases e)
  have H1 := hid hown1
  have hsz := hx1.size
  clear hown1 hgr1
  have hb24 : (0 + l.length) * 24 ≤ 140737488355328 := by omega
  go_wp2_with (at_builtin; refine wpList_append_rd _ rfl _ _ 23 rfl elem_bound w.heap.size _ 0 [] rfl H1.out A l.length c (bcells l) rfl HL.out (Rd.ext hA hx1) (bcells_one _) hb24 hsz ?_)
  intro A5 c5 w5 hown5 hbel5 hgr5 hn5
  have hx5 : Ext w w5 := Ext.grown hx1 hgr5 (fun k e => (H1.out.lt k e).1)
  obtain ⟨g5, hg5⟩ := own_at hown5 hn5
  subst hg5
  have H7 := hid hown5
  have H8 := hid hx5
  clear hown5 hn5 hbel5 hgr5 hx5 hx1
  go_wp2
  go_ret
  exact ⟨g5, c5, rfl, H7.out, H8.out⟩

set_option maxHeartbeats 1000000 in
theorem dup_claim (A : Option Addr) (c : Nat) (l : List Cl) (xs : List Value) (w : World) (hA : Rd w A xs) (hx : xs.length = l.length * 2) (h1 : ∀ u ∈ xs, u.oneCell' = true) (hl : l.length * 32 ≤ 140737488355328) :
    Calls Try.prog 80 #[.slice A l.length c] w fun e w' => ∃ g c', e = .returned (.slice (some ⟨g, 0, none⟩) l.length c') ∧ w'.ownsRow w.heap.size 37 2 (.slice (some ⟨g, 0, none⟩) l.length c') l.length xs ∧ Ext w w' := by
  obtain ⟨_, ⟨i, z, hi, hz, hsize, hby, hzs⟩, _, _⟩ := elem_claim
  have hm : l.length ≤ maxLen := by simp only [maxLen]; omega
  have hb2 : i.bytes * l.length ≤ 281474976710656 := by rw [hby]; omega
  have H2 := hid hm
  have H3 := hid hb2
  have H4 := hid hi
  have H5 := hid hz
  have H6 := hid hsize
  have HL := hid (hx)
  clear hm hb2 hi hz hsize hby hzs
  go_enter Try.func80, Try.ntmps80
  go_wp2_with (at_make; refine wpList_make_own _ rfl _ _ 24 rfl w.heap.size 37 i z 2 Try.underlying24 H4.out H5.out H6.out .i64 .i64 _ l.length rfl rfl rfl H3.out H2.out (Nat.le_refl _) ?_)
  intro w1 hown1 hgr1
  have hx1 : Ext w w1 := Ext.grown (Ext.refl w) hgr1 (fun k e => by cases e)
  have H1 := hid hown1
  have hsz := hx1.size
  clear hown1 hgr1
  have hb24 : (0 + l.length) * 32 ≤ 140737488355328 := by omega
  go_wp2_with (at_builtin; refine wpList_append_rd _ rfl _ _ 24 rfl elem_claim w.heap.size _ 0 [] rfl H1.out A l.length c xs rfl HL.out (Rd.ext hA hx1) (h1) hb24 hsz ?_)
  intro A5 c5 w5 hown5 hbel5 hgr5 hn5
  have hx5 : Ext w w5 := Ext.grown hx1 hgr5 (fun k e => (H1.out.lt k e).1)
  obtain ⟨g5, hg5⟩ := own_at hown5 hn5
  subst hg5
  have H7 := hid hown5
  have H8 := hid hx5
  clear hown5 hn5 hbel5 hgr5 hx5 hx1
  go_wp2
  go_ret
  exact ⟨g5, c5, rfl, H7.out, H8.out⟩

set_option maxHeartbeats 1000000 in
theorem dup_int (A : Option Addr) (c : Nat) (l : List Int) (w : World) (hA : Ints w A l) (hl : l.length * 8 ≤ 140737488355328) :
    Calls Try.prog 36 #[.slice A l.length c] w fun e w' => ∃ g c', e = .returned (.slice (some ⟨g, 0, none⟩) l.length c') ∧ w'.ownsRow w.heap.size 3 1 (.slice (some ⟨g, 0, none⟩) l.length c') l.length (l.map (.int .i64)) ∧ Ext w w' := by
  obtain ⟨_, ⟨i, z, hi, hz, hsize, hby, hzs⟩, _, _⟩ := elem_int
  have hm : l.length ≤ maxLen := by simp only [maxLen]; omega
  have hb2 : i.bytes * l.length ≤ 281474976710656 := by rw [hby]; omega
  have H2 := hid hm
  have H3 := hid hb2
  have H4 := hid hi
  have H5 := hid hz
  have H6 := hid hsize
  have HL := hid (ints_len l)
  clear hm hb2 hi hz hsize hby hzs
  go_enter Try.func36, Try.ntmps36
  go_wp2_with (at_make; refine wpList_make_own _ rfl _ _ 27 rfl w.heap.size 3 i z 1 Try.underlying27 H4.out H5.out H6.out .i64 .i64 _ l.length rfl rfl rfl H3.out H2.out (Nat.le_refl _) ?_)
  intro w1 hown1 hgr1
  have hx1 : Ext w w1 := Ext.grown (Ext.refl w) hgr1 (fun k e => by cases e)
  have H1 := hid hown1
  have hsz := hx1.size
  clear hown1 hgr1
  have hb24 : (0 + l.length) * 8 ≤ 140737488355328 := by omega
  go_wp2_with (at_builtin; refine wpList_append_rd _ rfl _ _ 27 rfl elem_int w.heap.size _ 0 [] rfl H1.out A l.length c (l.map (.int .i64)) rfl HL.out (Rd.ext hA hx1) (ints_one l) hb24 hsz ?_)
  intro A5 c5 w5 hown5 hbel5 hgr5 hn5
  have hx5 : Ext w w5 := Ext.grown hx1 hgr5 (fun k e => (H1.out.lt k e).1)
  obtain ⟨g5, hg5⟩ := own_at hown5 hn5
  subst hg5
  have H7 := hid hown5
  have H8 := hid hx5
  clear hown5 hn5 hbel5 hgr5 hx5 hx1
  go_wp2
  go_ret
  exact ⟨g5, c5, rfl, H7.out, H8.out⟩
end Go.Proofs.Ytgnjhaomlbkgcaa
