/- The walks of warn's in, event, witness, bounds, all, Check, All. -/
import Derived.Test.YtgnjhaomlbkgcaaWSpec
import Derived.Test.YtgnjhaomlbkgcaaWSlices
import Derived.Test.YtgnjhaomlbkgcaaWClone
namespace Go.Proofs.Ytgnjhaomlbkgcaa
open Go Go.RowKit
set_option linter.unusedVariables false
set_option linter.unusedSimpArgs false

theorem in_any (n lo hi : Int) (w : World) : Calls Try.prog 99 #[.int .i64 n, .int .i64 lo, .int .i64 hi] w fun e w' => e = .returned (.bool (inB n lo hi)) ∧ w = w' := by
  by_cases h1 : lo ≤ n
  · by_cases h2 : n ≤ hi
    · have H := hid (show inB n lo hi = true by simp [inB, h1, h2])
      go_enter Try.func99, Try.ntmps99
      go_wp2
      go_ret
      exact ⟨ret_of (bool_of H.out.symm), rfl⟩
    · have H := hid (show inB n lo hi = false by simp [inB, h2])
      go_enter Try.func99, Try.ntmps99
      go_wp2
      go_ret
      exact ⟨ret_of (bool_of H.out.symm), rfl⟩
  · have H := hid (show inB n lo hi = false by simp only [inB, h1]; simp)
    go_enter Try.func99, Try.ntmps99
    go_wp2
    go_ret
    exact ⟨ret_of (bool_of H.out.symm), rfl⟩

theorem event_any (v : Value) (c : Cs) (n : Int) (w : World) (hc : CsR w v c) (h1 : 1 ≤ c.ev) (h8 : c.ev ≤ 8) :
    Calls Try.prog 96 #[v, .int .i64 n] w fun e w' => e = .returned (.bool (inB n 0 (c.ev - 1))) ∧ Ext w w' := by
  obtain ⟨A1, c1, A2, c2, rfl, hB, hC⟩ := hc
  go_enter Try.func96, Try.ntmps96
  go_wp2_with fail
  refine (in_any _ _ _ _).mono ?_
  rintro e w1 ⟨rfl, rfl⟩
  go_wp2
  go_ret
  exact ⟨rfl, Ext.alloc (Ext.refl w) _⟩

theorem witness_any (v : Value) (c : Cs) (n : Int) (w : World) (hc : CsR w v c) (h1 : 0 ≤ c.wi) (h8 : c.wi ≤ 6) :
    Calls Try.prog 123 #[v, .int .i64 n] w fun e w' => e = .returned (.bool (inB n 0 (c.wi - 1))) ∧ Ext w w' := by
  obtain ⟨A1, c1, A2, c2, rfl, hB, hC⟩ := hc
  go_enter Try.func123, Try.ntmps123
  go_wp2_with fail
  refine (in_any _ _ _ _).mono ?_
  rintro e w1 ⟨rfl, rfl⟩
  go_wp2
  go_ret
  exact ⟨rfl, Ext.alloc (Ext.refl w) _⟩

theorem bounds1_fn (w : World) : FnP Try.prog (.func (.func 139) #[] #[]) w BdR anyx (fun b => inB b.m (-1000) 1000) := by
  refine ⟨_, _, _, rfl, enters_of Try.func139 (by kernel_rfl) rfl, fun x v W _ hW hR => ?_⟩
  obtain rfl : v = x.val := hR
  unfold Bd.val
  show Calls _ _ #[_] _ _
  go_enter Try.func139, Try.ntmps139
  go_wp2_with fail
  refine (in_any _ _ _ _).mono ?_
  rintro e w1 ⟨rfl, rfl⟩
  go_wp2
  go_ret
  exact ⟨rfl, Ext.alloc (Ext.refl W) _⟩

/-- The bound method c.event as a function value. -/
theorem event_fn (v : Value) (c : Cs) (w : World) (hc : CsR w v c) (h1 : 1 ≤ c.ev) (h8 : c.ev ≤ 8) : FnP Try.prog (.func (.func 96) #[v] #[]) w IntR anyx (fun n => inB n 0 (c.ev - 1)) := by
  refine ⟨_, _, _, rfl, enters_of Try.func96 (by kernel_rfl) rfl, fun x v2 W _ hW hR => ?_⟩
  obtain rfl : v2 = .int .i64 x := hR
  exact event_any v c x W (hc.kc hW) h1 h8

set_option maxHeartbeats 400000 in
theorem bounds2_fn (v : Value) (c : Cs) (w : World) (B : Nat) (hc : CsR w v c) (h1 : 1 ≤ c.ev) (h8 : c.ev ≤ 8) (hB : w.cell? ⟨B, 0, none⟩ = some (.func (.func 96) #[v] #[])) :
    FnP Try.prog (.func (.func 140) #[] #[.pointer (some ⟨B, 0, none⟩)]) w BdR anyx (fun b => inB b.f 0 (c.ev - 1) && inB b.t 0 (c.ev - 1)) := by
  refine ⟨_, _, _, rfl, enters_of Try.func140 (by kernel_rfl) rfl, fun x v2 W _ hW hR => ?_⟩
  obtain rfl : v2 = x.val := hR
  unfold Bd.val
  show Calls _ _ #[_, _] _ _
  have hcell : ∀ o, (W.alloc o).cell? ⟨B, 0, none⟩ = some (.func (.func 96) #[v] #[]) := fun o => (hW.alloc o).cell hB
  have hc2 := hc.kc hW
  go_enter Try.func140, Try.ntmps140
  go_wp2_with fail
  refine (event_any v c _ _ (hc2.ext (Ext.alloc (Ext.refl W) _)) h1 h8).mono ?_
  rintro e w1 ⟨rfl, hb1⟩
  have hx1 := (hW.alloc _).trans hb1.kc
  have hcell1 := hx1.cell hB
  have k0 := hb1.cell (p := ⟨W.heap.size, 0, none⟩) (u := .int .i64 x.f) (by simp [go_sem])
  have k1 := hb1.cell (p := ⟨W.heap.size, 1, none⟩) (u := .int .i64 x.t) (by simp [go_sem])
  cases hq : inB x.f 0 (c.ev - 1)
  · go_wp2
    go_ret
    exact ⟨ret_of (by simp [hq]), (Ext.alloc (Ext.refl W) _).trans hb1⟩
  · go_wp2_with fail
    refine (event_any v c _ _ (hc.kc hx1) h1 h8).mono ?_
    rintro e w2 ⟨rfl, hb2⟩
    go_wp2
    go_ret
    exact ⟨ret_of (by simp [hq]), ((Ext.alloc (Ext.refl W) _).trans hb1).trans hb2⟩

set_option maxHeartbeats 400000 in
theorem bounds_any (v : Value) (c : Cs) (A : Option Addr) (k : Nat) (l : List Bd) (w : World) (hc : CsR w v c) (h1 : 1 ≤ c.ev) (h8 : c.ev ≤ 8) (hA : Bounds w A l) (hl : l.length ≤ 9223372036854775807) :
    Calls Try.prog 103 #[v, .slice A l.length k] w fun e w' => e = .returned (.int .i64 (bdsC c.ev l)) ∧ Ext w w' := by
  have hc' := hc
  obtain ⟨A1, c1, A2, c2, rfl, hB, hC⟩ := hc
  go_enter Try.func103, Try.ntmps103
  go_wp2_with fail
  have hx0 : Ext w ((w.alloc (.cells #[.int .i64 c.ev, .slice A1 c.bs.length c1, .int .i64 c.wi, .slice A2 c.cl.length c2] 26)).alloc (.cells #[.func (.func 96) #[.agg #[.int .i64 c.ev, .slice A1 c.bs.length c1, .int .i64 c.wi, .slice A2 c.cl.length c2]] #[]] 123)) := Ext.alloc (Ext.alloc (Ext.refl w) _) _
  refine (every_bound A k l _ anyx _ _ (hA.ext hx0) hl (anyx_all l) (bounds1_fn _)).mono ?_
  rintro e w1 ⟨rfl, hb1⟩
  have hx1 := hx0.trans hb1
  have kf := hb1.cell (p := ⟨w.heap.size + 1, 0, none⟩) (u := .func (.func 96) #[.agg #[.int .i64 c.ev, .slice A1 c.bs.length c1, .int .i64 c.wi, .slice A2 c.cl.length c2]] #[]) (by simp [go_sem])
  cases hq : l.all fun b => inB b.m (-1000) 1000
  · have H := hid (show bdsC c.ev l = 3 by simp [bdsC, limOK, hq])
    clear hq
    go_wp2
    go_ret
    exact ⟨ret_of (int_of H.out.symm), hx1⟩
  · have HL := hid hq
    clear hq
    go_wp2_with fail
    refine (every_bound A k l _ anyx _ _ (hA.ext hx1) hl (anyx_all l) (bounds2_fn _ c w1 (w.heap.size + 1) (hc'.ext hx1) h1 h8 kf)).mono ?_
    rintro e w2 ⟨rfl, hb2⟩
    cases hq : l.all fun b => inB b.f 0 (c.ev - 1) && inB b.t 0 (c.ev - 1)
    · have H := hid (show bdsC c.ev l = 1 by simp [bdsC, limOK, evOK, hq, HL.out])
      clear hq
      go_wp2
      go_ret
      exact ⟨ret_of (int_of H.out.symm), hx1.trans hb2⟩
    · have H := hid (show bdsC c.ev l = 0 by simp [bdsC, limOK, evOK, hq, HL.out])
      clear hq
      go_wp2
      go_ret
      exact ⟨ret_of (int_of H.out.symm), hx1.trans hb2⟩
end Go.Proofs.Ytgnjhaomlbkgcaa
