/- The walk of sum: along a row of bounds. Printed by my gen_sum.py. -/
import Derived.Test.YtgnjhaomlbkgcaaWShows
namespace Go.Proofs.Ytgnjhaomlbkgcaa
open Go Go.RowKit Go.Shelf
set_option linter.unusedVariables false
set_option linter.unusedSimpArgs false

set_option maxRecDepth 100000 in
set_option maxHeartbeats 2000000 in
theorem sum_any (A : Option Addr) (k0 : Nat) (L : List Bd) (A2 : Option Addr) (k2 : Nat) (row : List Int) (a b e s : Int) (w : World) (hA : Bounds w A L) (hR : Ints w A2 row) (hl : L.length ≤ 1000000) (hr : row.length ≤ 1000000) (hm : ∀ x ∈ L, -2000 ≤ x.m ∧ x.m ≤ 2000)
    (hi : ∀ i ∈ row, 0 ≤ i ∧ i < (L.length : Int)) (hs : alongC L a 0 row = some (e, s)) :
    Calls Try.prog 28 #[.slice A L.length k0, .int .i64 a, .int .i64 b, .slice A2 row.length k2] w fun en w' => en = .returned (.tuple #[.int .i64 s, .bool (e == b)]) ∧ Ext w w' := by
  have HS0 : Hid (alongC L a 0 (row.drop 0) = some (e, s)) := hs
  have HI := hid hi
  have HM := hid hm
  clear hs hi hm
  go_enter Try.func28, Try.ntmps28
  go_wp2
  go_loopw [1, 10, 15] (fun at_ o i wr => ∃ (k : Nat) (p q : Int), at_ = .int .i64 p ∧ o = .int .i64 q ∧ i = .int .i64 (k : Int) ∧ k ≤ row.length ∧ -2000 * (k : Int) ≤ q ∧ q ≤ 2000 * (k : Int) ∧ Hid (alongC L p q (row.drop k) = some (e, s)) ∧ Ext w wr) (fun _ _ i _ => row.length - (intOf i).toNat)
  case atStart => exact ⟨0, a, 0, rfl, rfl, rfl, Nat.zero_le _, by omega, by omega, HS0, Ext.refl _⟩
  case round =>
    obtain ⟨k, p, q, rfl, rfl, rfl, hk, hq1, hq2, HS, hx⟩ := hrel
    by_cases hlt : k < row.length
    · have hlt' : (k : Int) < (row.length : Int) := by omega
      obtain ⟨i, hik⟩ := get_of_lt row k hlt
      have hii := HI.out i (mem_of_get hik)
      obtain ⟨n, rfl⟩ : ∃ n : Nat, i = n := ⟨i.toNat, by omega⟩
      obtain ⟨x, hxn⟩ := get_of_lt L n (by omega)
      have hmx := HM.out x (mem_of_get hxn)
      have hst := HS.out
      rw [List.drop_eq_getElem_cons hlt, (List.getElem?_eq_some_iff.1 hik).2] at hst
      simp only [alongC, Int.toNat_natCast, hxn] at hst
      have hf : x.f = p := by
        by_cases h : x.f = p
        · exact h
        · rw [if_neg h] at hst; cases hst
      rw [if_pos hf] at hst
      have HS2 := hid hst
      obtain ⟨b2, off2, rfl, r0⟩ := (hR.ext hx).at_ hik
      obtain ⟨b1, off1, rfl, c0, c1, c2⟩ := (hA.ext hx).at_ hxn
      rw [hf] at c0
      have hn0 : ¬ (n : Int) < 0 := by omega
      have hn1 : (n : Int) < (L.length : Int) := hii.2
      have hn2 : ¬ (L.length : Int) ≤ (n : Int) := by omega
      clear hst hik hxn hf HS
      go_wp2
      have FX0 : ∀ w', Ext wr w' → w'.cell? ⟨b1, off1 + n * 3 + 1, none⟩ = some (.int .i64 x.t) ∧ w'.cell? ⟨b1, off1 + n * 3 + 2, none⟩ = some (.int .i64 x.m) := fun w' h => ⟨h.cell c1, h.cell c2⟩
      have FX := hid FX0
      have hsum : IntKind.i64.wrap (q + x.m) = q + x.m := IntWalk.i64_in _ ⟨by omega, by omega⟩
      clear FX0 c0 c1 c2 r0
      refine wp_region_opens Ext (fun w' => Ext wr w') (fun _ => none) (by kernel_rfl) (by kernel_rfl) (fun _ _ h k => h.trans k) (fun i R hR => by cases hR) (Ext.drew (Ext.refl wr)) ?_
      refine wpM_val ?ua0 rfl rfl Ext.refl (fun w' hD => ?ha0) ?na0
      case ha0 =>
        obtain ⟨d0, d1⟩ := FX.out w' hD.1
        go_simp; rfl
      simp only [Act.put, List.setIfInBounds_toArray, List.set_cons_succ, List.set_cons_zero, Nat.reduceAdd]
      refine wpM_val ?ua1 rfl rfl Ext.refl (fun w' hD => ?ha1) ?na1
      case ha1 =>
        obtain ⟨d0, d1⟩ := FX.out w' hD.1
        go_simp; rfl
      simp only [Act.put, List.setIfInBounds_toArray, List.set_cons_succ, List.set_cons_zero, Nat.reduceAdd]
      refine wpM_val ?ua2 rfl rfl Ext.refl (fun w' hD => ?ha2) ?na2
      case ha2 =>
        obtain ⟨d0, d1⟩ := FX.out w' hD.1
        go_simp; rfl
      simp only [Act.put, List.setIfInBounds_toArray, List.set_cons_succ, List.set_cons_zero, Nat.reduceAdd]
      refine wpM_val ?ua3 rfl rfl Ext.refl (fun w' hD => ?ha3) ?na3
      case ha3 =>
        obtain ⟨d0, d1⟩ := FX.out w' hD.1
        go_simp; rfl
      simp only [Act.put, List.setIfInBounds_toArray, List.set_cons_succ, List.set_cons_zero, Nat.reduceAdd]
      refine wpM_val ?ua4 rfl rfl Ext.refl (fun w' hD => ?ha4) ?na4
      case ha4 =>
        obtain ⟨d0, d1⟩ := FX.out w' hD.1
        go_simp; rfl
      simp only [Act.put, List.setIfInBounds_toArray, List.set_cons_succ, List.set_cons_zero, Nat.reduceAdd]
      refine wpM_val ?ua5 rfl rfl Ext.refl (fun w' hD => ?ha5) ?na5
      case ha5 =>
        obtain ⟨d0, d1⟩ := FX.out w' hD.1
        go_simp; rfl
      simp only [Act.put, List.setIfInBounds_toArray, List.set_cons_succ, List.set_cons_zero, Nat.reduceAdd]
      refine wpM_val ?ua6 rfl rfl Ext.refl (fun w' hD => ?ha6) ?na6
      case ha6 =>
        obtain ⟨d0, d1⟩ := FX.out w' hD.1
        go_simp; rfl
      simp only [Act.put, List.setIfInBounds_toArray, List.set_cons_succ, List.set_cons_zero, Nat.reduceAdd]
      refine wpM_val ?ua7 rfl rfl Ext.refl (fun w' hD => ?ha7) ?na7
      case ha7 =>
        obtain ⟨d0, d1⟩ := FX.out w' hD.1
        go_simp; rfl
      simp only [Act.put, List.setIfInBounds_toArray, List.set_cons_succ, List.set_cons_zero, Nat.reduceAdd]
      refine wpM_val ?ua8 rfl rfl Ext.refl (fun w' hD => ?ha8) ?na8
      case ha8 =>
        obtain ⟨d0, d1⟩ := FX.out w' hD.1
        go_simp; rfl
      simp only [Act.put, List.setIfInBounds_toArray, List.set_cons_succ, List.set_cons_zero, Nat.reduceAdd]
      refine wpM_val ?ua9 rfl rfl Ext.refl (fun w' hD => ?ha9) ?na9
      case ha9 =>
        obtain ⟨d0, d1⟩ := FX.out w' hD.1
        go_simp; rfl
      simp only [Act.put, List.setIfInBounds_toArray, List.set_cons_succ, List.set_cons_zero, Nat.reduceAdd]
      refine wpM_val ?ua10 rfl rfl Ext.refl (fun w' hD => ?ha10) ?na10
      case ha10 =>
        obtain ⟨d0, d1⟩ := FX.out w' hD.1
        go_simp; rfl
      simp only [Act.put, List.setIfInBounds_toArray, List.set_cons_succ, List.set_cons_zero, Nat.reduceAdd]
      refine wpM_val ?ua11 rfl rfl Ext.refl (fun w' hD => ?ha11) ?na11
      case ha11 =>
        obtain ⟨d0, d1⟩ := FX.out w' hD.1
        go_simp; rfl
      simp only [Act.put, List.setIfInBounds_toArray, List.set_cons_succ, List.set_cons_zero, Nat.reduceAdd]
      refine wpM_val ?ua12 rfl rfl Ext.refl (fun w' hD => ?ha12) ?na12
      case ha12 =>
        obtain ⟨d0, d1⟩ := FX.out w' hD.1
        go_simp; rfl
      simp only [Act.put, List.setIfInBounds_toArray, List.set_cons_succ, List.set_cons_zero, Nat.reduceAdd]
      refine wpM_val ?ua13 rfl rfl Ext.refl (fun w' hD => ?ha13) ?na13
      case ha13 =>
        obtain ⟨d0, d1⟩ := FX.out w' hD.1
        go_simp; rfl
      simp only [Act.put, List.setIfInBounds_toArray, List.set_cons_succ, List.set_cons_zero, Nat.reduceAdd]
      refine wpM_nil ?_
      intro w9 hw9 hF9
      have hx9 := hx.trans hw9
      clear hF9 FX hsum
      go_wp2
      go_roundw
      case rel => exact ⟨k + 1, x.t, q + x.m, rfl, rfl, by go_num, by omega, by omega, by omega, HS2, hx9⟩
      case measure => simp [intOf]; omega
    · have hlt' : ¬ (k : Int) < (row.length : Int) := by omega
      have hst := HS.out
      rw [List.drop_eq_nil_of_le (by omega)] at hst
      simp only [alongC, Option.some.injEq, Prod.mk.injEq] at hst
      obtain ⟨rfl, rfl⟩ := hst
      go_wp2
      go_ret2
      exact ⟨rfl, hx⟩
end Go.Proofs.Ytgnjhaomlbkgcaa
