/- The walk of warn.Check and warn.All. -/
import Derived.Test.YtgnjhaomlbkgcaaWAll
namespace Go.Proofs.Ytgnjhaomlbkgcaa
open Go Go.RowKit
set_option linter.unusedVariables false
set_option linter.unusedSimpArgs false

/-- Lengths that an int can tell. -/
def Cs.sized (c : Cs) : Prop := c.bs.length ≤ 9223372036854775807 ∧ c.cl.length ≤ 9223372036854775807 ∧ ∀ x, x ∈ c.cl → x.bs.length ≤ 9223372036854775807

theorem bdsC_cases (ev : Int) (l : List Bd) : bdsC ev l = 3 ∨ bdsC ev l = 1 ∨ bdsC ev l = 0 := by
  unfold bdsC
  cases limOK l <;> cases evOK ev l <;> simp

set_option maxHeartbeats 2000000 in
theorem check_any (v : Value) (c : Cs) (w : World) (hc : CsR w v c) (hs : c.sized) :
    Calls Try.prog 65 #[v] w fun e w' => e = .returned (.int .i64 (checkC c)) ∧ Ext w w' := by
  have hc' := hc
  obtain ⟨A1, c1, A2, c2, rfl, hB, hC⟩ := hc
  obtain ⟨hs1, hs2, hs3⟩ := hs
  have HS3 := hid hs3
  clear hs3
  have hx0 : Ext w (w.alloc (.cells #[.int .i64 c.ev, .slice A1 c.bs.length c1, .int .i64 c.wi, .slice A2 c.cl.length c2] 26)) := Ext.alloc (Ext.refl w) _
  go_enter Try.func65, Try.ntmps65
  go_wp2_with fail
  refine (in_any _ _ _ _).mono ?_
  rintro e w1 ⟨rfl, rfl⟩
  cases hq1 : inB c.ev 1 8
  · have H := hid (checkC_many (c := c) (by simp [manyOK, hq1]))
    go_wp2
    go_ret
    exact ⟨ret_of (int_of H.out.symm), hx0⟩
  have e1 := inB_iff.1 hq1
  by_cases hq2 : c.bs.length ≤ 20
  case neg =>
    have hq2' : (20 : Int) < (c.bs.length : Int) := by omega
    have H := hid (checkC_many (c := c) (by simp [manyOK, hq2]))
    clear hq2
    go_wp2
    go_ret
    exact ⟨ret_of (int_of H.out.symm), hx0⟩
  have hq2' : ¬ (20 : Int) < (c.bs.length : Int) := by omega
  go_wp2_with fail
  refine (in_any _ _ _ _).mono ?_
  rintro e w1 ⟨rfl, rfl⟩
  cases hq3 : inB c.wi 0 6
  · have H := hid (checkC_many (c := c) (by simp [manyOK, hq3]))
    go_wp2
    go_ret
    exact ⟨ret_of (int_of H.out.symm), hx0⟩
  have e3 := inB_iff.1 hq3
  by_cases hq4 : c.cl.length ≤ 8
  case neg =>
    have hq4' : (8 : Int) < (c.cl.length : Int) := by omega
    have H := hid (checkC_many (c := c) (by simp [manyOK, hq4]))
    clear hq4
    go_wp2
    go_ret
    exact ⟨ret_of (int_of H.out.symm), hx0⟩
  have hq4' : ¬ (8 : Int) < (c.cl.length : Int) := by omega
  go_wp2_with fail
  refine (every_claim A2 c2 c.cl _ _ _ _ (hC.ext hx0) hs2 HS3.out (check1_fn _)).mono ?_
  rintro e w1 ⟨rfl, hb1⟩
  have hx1 := hx0.trans hb1
  have kc0 := hb1.cell (p := ⟨w.heap.size, 0, none⟩) (u := .int .i64 c.ev) (by simp [go_sem])
  have kc1 := hb1.cell (p := ⟨w.heap.size, 1, none⟩) (u := .slice A1 c.bs.length c1) (by simp [go_sem])
  have kc2 := hb1.cell (p := ⟨w.heap.size, 2, none⟩) (u := .int .i64 c.wi) (by simp [go_sem])
  have kc3 := hb1.cell (p := ⟨w.heap.size, 3, none⟩) (u := .slice A2 c.cl.length c2) (by simp [go_sem])
  cases hq5 : c.cl.all fun x => decide (x.bs.length ≤ 4)
  · have H := hid (checkC_many (c := c) (by simp only [manyOK, eachOK, hq5]; simp))
    clear hq5
    go_wp2
    go_ret
    exact ⟨ret_of (int_of H.out.symm), hx1⟩
  have hm : manyOK c = true := by simp only [manyOK, eachOK, hq1, hq3, hq5]; simp [hq2, hq4]
  have HM := hid hm
  have hal := all_len hm
  clear hm hq5
  go_wp2_with fail
  refine (all_calls _ c w1 (hc'.ext hx1) (by omega) (by omega)).mono ?_
  rintro e w2 ⟨A5, c5, rfl, hown, hb2⟩
  have hBA : Bounds w2 A5 c.all := Rd.of_own hown
  clear hown
  have hx2 := hx1.trans hb2
  have kd0 := hb2.cell kc0
  have kd1 := hb2.cell kc1
  have kd2 := hb2.cell kc2
  have kd3 := hb2.cell kc3
  go_wp2_with fail
  refine (bounds_any _ c A5 c5 c.all w2 (hc'.ext hx2) e1.1 e1.2 hBA (by omega)).mono ?_
  rintro e w3 ⟨rfl, hb3⟩
  have hx3 := hx2.trans hb3
  have ke0 := hb3.cell kd0
  have ke1 := hb3.cell kd1
  have ke2 := hb3.cell kd2
  have ke3 := hb3.cell kd3
  have hbd := bdsC_cases c.ev c.all
  rcases hbd with hbd | hbd | hbd
  · have H := hid (show checkC c = 3 by simp [checkC, HM.out, hbd])
    rw [hbd]
    clear hbd
    go_wp2
    go_ret
    exact ⟨ret_of (int_of H.out.symm), hx3⟩
  · have H := hid (show checkC c = 1 by simp [checkC, HM.out, hbd])
    rw [hbd]
    clear hbd
    go_wp2
    go_ret
    exact ⟨ret_of (int_of H.out.symm), hx3⟩
  · have HB := hid hbd
    rw [hbd]
    clear hbd
    go_wp2_with fail
    refine (every_claim A2 c2 c.cl _ anyx _ _ (hC.ext hx3) hs2 (anyx_all _) (check2_fn _ c w3 w.heap.size e3.1 e3.2 (hc'.ext hx3) ⟨A1, c1, A2, c2, rfl, ke0, ke1, ke2, ke3⟩)).mono ?_
    rintro e w4 ⟨rfl, hb4⟩
    have hx4 := hx3.trans hb4
    cases hq6 : c.cl.all fun x => inB x.w 0 (c.wi - 1)
    · have H := hid (show checkC c = 1 by simp only [checkC, HM.out, HB.out, witOK, hq6]; simp)
      clear hq6
      go_wp2
      go_ret
      exact ⟨ret_of (int_of H.out.symm), hx4⟩
    · have H6 := hid hq6
      clear hq6
      have hBA3 := (hBA.ext hb3).ext hb4
      go_wp2_with fail
      refine (every_bound A5 c5 c.all _ anyx _ _ hBA3 (by omega) (anyx_all _) (check3_fn _)).mono ?_
      rintro e w5 ⟨rfl, hb5⟩
      have hx5 := hx4.trans hb5
      cases hq7 : c.all.all fun b => b.f != b.t
      · have H := hid (show checkC c = 5 by simp only [checkC, HM.out, HB.out, witOK, H6.out, diffOK, hq7]; simp)
        clear hq7
        go_wp2
        go_ret
        exact ⟨ret_of (int_of H.out.symm), hx5⟩
      · have H := hid (show checkC c = 0 by simp only [checkC, HM.out, HB.out, witOK, H6.out, diffOK, hq7]; simp)
        clear hq7
        go_wp2
        go_ret
        exact ⟨ret_of (int_of H.out.symm), hx5⟩
end Go.Proofs.Ytgnjhaomlbkgcaa
