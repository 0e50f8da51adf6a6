/- Eq over equal rows, same, great, wide, theirs and paired of the laws that compare. Printed by my gen_bcmp.py. -/
import Derived.Test.YtjnobdcbbboeeaaBOwnL
import Derived.Test.YtjnobdcbbboeeaaH2
import Derived.Test.YtjnobdcbbboeeaaBTru2
import Derived.Laws.StructEq
namespace Go.Proofs.Ytjnobdcbbboeeaa
open Go Go.RowKit Go.Shelf
set_option linter.unusedVariables false
set_option linter.unusedSimpArgs false

theorem own_neC {w : World} {base e size n : Nat} {v : Value} {xs : List Value} {X : Nat} {cs : Array Value} {t : TypeId} {m : Nat × Nat} (h : w.ownsRow base e size v n xs) (hX : w.heap[X]? = some (.cells cs t m)) (hne : t ≠ e) : v.ownBlock ≠ some X := by
  intro hq
  rcases h.2 with ⟨rfl, _⟩ | ⟨g, cap, cur, rfl, _, hg, _⟩
  · cases hq
  · cases hq
    rw [hX] at hg
    cases hg
    exact hne rfl
theorem elem_rwg : ElemOK Try.prog 73 92 5 40 := by
  refine ⟨Try.underlying73, ?_, by decide, by decide⟩
  have h : ((Try.prog.info? 92).bind fun i => i.zero.map fun z => (i.size, i.bytes, z.cells.size)) = some (5, 40, 5) := by kernel_rfl
  cases hi : Try.prog.info? 92 with
  | none => rw [hi] at h; cases h
  | some i =>
    rw [hi] at h
    cases hz : i.zero with
    | none => simp [hz] at h
    | some z => simp [hz] at h; exact ⟨i, z, rfl, hz, h.1, h.2.1, h.2.2⟩
theorem elem_rpr : ElemOK Try.prog 83 150 2 16 := by
  refine ⟨Try.underlying83, ?_, by decide, by decide⟩
  have h : ((Try.prog.info? 150).bind fun i => i.zero.map fun z => (i.size, i.bytes, z.cells.size)) = some (2, 16, 2) := by kernel_rfl
  cases hi : Try.prog.info? 150 with
  | none => rw [hi] at h; cases h
  | some i =>
    rw [hi] at h
    cases hz : i.zero with
    | none => simp [hz] at h
    | some z => simp [hz] at h; exact ⟨i, z, rfl, hz, h.1, h.2.1, h.2.2⟩

theorem run_ne_rt (w : World) (x y : Int) : (binOp .neq 43 (.agg #[.int .i64 x, .int .i64 y]) (.agg #[.int .i64 x, .int .i64 y])).run Try.prog w = .ok (.bool false) w := by
  have ht : Try.prog.underlying 43 = some (.struct (Try.prog.fieldsOf 43)) := by kernel_rfl
  have hp : Try.prog.stoodInHeld 43 = false := by kernel_rfl
  rw [run_neq_struct, run_equalIn_agg w _ _ _ _ ht hp]
  have hu := Try.underlying3
  simp [Program.fieldsOf, Try.underlying43, Op.eqFields, go_sem, hu]

theorem run_ne_bp (w : World) (x y : Int) : (binOp .neq 36 (.agg #[.int .i64 x, .int .i64 y]) (.agg #[.int .i64 x, .int .i64 y])).run Try.prog w = .ok (.bool false) w := by
  have ht : Try.prog.underlying 36 = some (.struct (Try.prog.fieldsOf 36)) := by kernel_rfl
  have hp : Try.prog.stoodInHeld 36 = false := by kernel_rfl
  rw [run_neq_struct, run_equalIn_agg w _ _ _ _ ht hp]
  have hu := Try.underlying3
  simp [Program.fieldsOf, Try.underlying36, Op.eqFields, go_sem, hu]

theorem run_ne_wg (w : World) (a b c d e : Int) : (binOp .neq 55 (.agg #[.int .i64 a, .int .i64 b, .int .i64 c, .int .i64 d, .int .i64 e]) (.agg #[.int .i64 a, .int .i64 b, .int .i64 c, .int .i64 d, .int .i64 e])).run Try.prog w = .ok (.bool false) w := by
  have ht : Try.prog.underlying 55 = some (.struct (Try.prog.fieldsOf 55)) := by kernel_rfl
  have hp : Try.prog.stoodInHeld 55 = false := by kernel_rfl
  rw [run_neq_struct, run_equalIn_agg w _ _ _ _ ht hp]
  have hu := Try.underlying3
  simp [Program.fieldsOf, Try.underlying55, Try.underlying47, Op.eqFields, go_sem, hu]

set_option maxRecDepth 100000 in
set_option maxHeartbeats 1000000 in
theorem equal_rts (A A' : Option Addr) (c c' : Nat) (l : List (Int × Int)) (w : World) (hA : Prs w A l) (hB : Prs w A' l) (hl : l.length ≤ 9223372036854775807) :
    Calls Try.prog 109 #[.slice A l.length c, .slice A' l.length c'] w fun e w' => e = .returned (.bool true) ∧ Ext w w' := by
  go_enter Try.func109, Try.ntmps109
  go_wp2
  go_loopw [5, 13] (fun _ i wr => ∃ k : Nat, k ≤ l.length ∧ i = .int .i64 (k : Int) ∧ Ext w wr) (fun _ i _ => l.length - (intOf i).toNat)
  case atStart => exact ⟨0, Nat.zero_le _, rfl, Ext.refl _⟩
  case round =>
    obtain ⟨k, hk, rfl, hx⟩ := hrel
    by_cases hlt : k < l.length
    · have hlt' : (k : Int) < (l.length : Int) := by omega
      obtain ⟨x, hx1⟩ := get_of_lt l k hlt
      obtain ⟨b1, o1, rfl, g0, g1⟩ := prs_get (Rows.ext hA hx) hx1
      obtain ⟨b2, o2, rfl, k0, k1⟩ := prs_get (Rows.ext hB hx) hx1
      clear hx1
      go_wp2
      have FX : Hid (∀ w', Ext wr w' → w'.cell? ⟨b1, o1 + k * 2, none⟩ = some (.int .i64 x.1) ∧ w'.cell? ⟨b1, o1 + k * 2 + 1, none⟩ = some (.int .i64 x.2) ∧ w'.cell? ⟨b2, o2 + k * 2, none⟩ = some (.int .i64 x.1) ∧ w'.cell? ⟨b2, o2 + k * 2 + 1, none⟩ = some (.int .i64 x.2)) :=
        fun w' h => ⟨h.cell g0, h.cell g1, h.cell k0, h.cell k1⟩
      clear g0 g1 k0 k1
      refine wp_region_shut Ext (fun w' => Ext wr w') (fun _ => none) (by kernel_rfl) (by kernel_rfl) (fun _ _ h k => h.trans k) (fun i R h => by cases h) (Ext.drew (Ext.refl wr)) ?_
      refine wM_val ?ua0 rfl rfl Ext.refl (fun w' hD => ?ha0) (fun pha0 => ?na0)
      case ha0 =>
        obtain ⟨d0, d1, d2, d3⟩ := FX.out _ hD.1
        go_simp; rfl
      simp only [Act.put, List.setIfInBounds_toArray, List.set_cons_succ, List.set_cons_zero, Nat.reduceAdd]
      refine wM_val ?ua1 rfl rfl Ext.refl (fun w' hD => ?ha1) (fun pha1 => ?na1)
      case ha1 =>
        obtain ⟨d0, d1, d2, d3⟩ := FX.out _ hD.1
        go_simp; rfl
      simp only [Act.put, List.setIfInBounds_toArray, List.set_cons_succ, List.set_cons_zero, Nat.reduceAdd]
      refine wM_val ?ua2 rfl rfl Ext.refl (fun w' hD => ?ha2) (fun pha2 => ?na2)
      case ha2 =>
        obtain ⟨d0, d1, d2, d3⟩ := FX.out _ hD.1
        go_simp; rfl
      simp only [Act.put, List.setIfInBounds_toArray, List.set_cons_succ, List.set_cons_zero, Nat.reduceAdd]
      refine wM_val ?ua3 rfl rfl Ext.refl (fun w' hD => ?ha3) (fun pha3 => ?na3)
      case ha3 =>
        obtain ⟨d0, d1, d2, d3⟩ := FX.out _ hD.1
        go_simp; rfl
      simp only [Act.put, List.setIfInBounds_toArray, List.set_cons_succ, List.set_cons_zero, Nat.reduceAdd]
      refine wM_val ?ua4 rfl rfl Ext.refl (fun w' hD => ?ha4) (fun pha4 => ?na4)
      case ha4 =>
        obtain ⟨d0, d1, d2, d3⟩ := FX.out _ hD.1
        go_simp; rfl
      simp only [Act.put, List.setIfInBounds_toArray, List.set_cons_succ, List.set_cons_zero, Nat.reduceAdd]
      refine wM_val ?ua5 rfl rfl Ext.refl (fun w' hD => ?ha5) (fun pha5 => ?na5)
      case ha5 =>
        obtain ⟨d0, d1, d2, d3⟩ := FX.out _ hD.1
        go_simp; rfl
      simp only [Act.put, List.setIfInBounds_toArray, List.set_cons_succ, List.set_cons_zero, Nat.reduceAdd]
      refine wM_val ?ua6 rfl rfl Ext.refl (fun w' hD => ?ha6) (fun pha6 => ?na6)
      case ha6 =>
        obtain ⟨d0, d1, d2, d3⟩ := FX.out _ hD.1
        go_simp; rfl
      simp only [Act.put, List.setIfInBounds_toArray, List.set_cons_succ, List.set_cons_zero, Nat.reduceAdd]
      refine wM_val ?ua7 rfl rfl Ext.refl (fun w' hD => ?ha7) (fun pha7 => ?na7)
      case ha7 =>
        obtain ⟨d0, d1, d2, d3⟩ := FX.out _ hD.1
        go_simp; rfl
      simp only [Act.put, List.setIfInBounds_toArray, List.set_cons_succ, List.set_cons_zero, Nat.reduceAdd]
      refine wM_val (.bool false) rfl rfl Ext.refl (fun w' hD => ?ha8) (fun pha8 => ?na8)
      case ha8 =>
        have e := run_ne_rt w' x.1 x.2
        go_simp
      simp only [Act.put, List.setIfInBounds_toArray, List.set_cons_succ, List.set_cons_zero, Nat.reduceAdd]
      refine wM_nil ?_
      intro w9 hw9 hF9
      go_wp2
      go_roundw
      case rel => exact ⟨k + 1, by omega, by go_num, hx.trans hw9⟩
      case measure => simp [intOf]; omega
    · have hlt' : ¬ (k : Int) < (l.length : Int) := by omega
      go_wp2
      go_ret
      exact ⟨rfl, hx⟩

theorem eq_rts (A A' : Option Addr) (c c' : Nat) (l : List (Int × Int)) (w : World) (hA : Prs w A l) (hB : Prs w A' l) (hl : l.length ≤ 9223372036854775807) :
    Calls Try.prog 65 #[.slice A l.length c, .slice A' l.length c'] w fun e w' => e = .returned (.bool true) ∧ Ext w w' := by
  go_enter Try.func65, Try.ntmps65
  go_wp2_with fail
  refine (equal_rts A A' c c' l w hA hB hl).mono ?_
  rintro e w1 ⟨rfl, hb⟩
  go_wp2
  go_ret
  exact ⟨rfl, hb⟩

set_option maxRecDepth 100000 in
set_option maxHeartbeats 1000000 in
theorem equal_bps (A A' : Option Addr) (c c' : Nat) (l : List (Int × Int)) (w : World) (hA : Prs w A l) (hB : Prs w A' l) (hl : l.length ≤ 9223372036854775807) :
    Calls Try.prog 100 #[.slice A l.length c, .slice A' l.length c'] w fun e w' => e = .returned (.bool true) ∧ Ext w w' := by
  go_enter Try.func100, Try.ntmps100
  go_wp2
  go_loopw [5, 13] (fun _ i wr => ∃ k : Nat, k ≤ l.length ∧ i = .int .i64 (k : Int) ∧ Ext w wr) (fun _ i _ => l.length - (intOf i).toNat)
  case atStart => exact ⟨0, Nat.zero_le _, rfl, Ext.refl _⟩
  case round =>
    obtain ⟨k, hk, rfl, hx⟩ := hrel
    by_cases hlt : k < l.length
    · have hlt' : (k : Int) < (l.length : Int) := by omega
      obtain ⟨x, hx1⟩ := get_of_lt l k hlt
      obtain ⟨b1, o1, rfl, g0, g1⟩ := prs_get (Rows.ext hA hx) hx1
      obtain ⟨b2, o2, rfl, k0, k1⟩ := prs_get (Rows.ext hB hx) hx1
      clear hx1
      go_wp2
      have FX : Hid (∀ w', Ext wr w' → w'.cell? ⟨b1, o1 + k * 2, none⟩ = some (.int .i64 x.1) ∧ w'.cell? ⟨b1, o1 + k * 2 + 1, none⟩ = some (.int .i64 x.2) ∧ w'.cell? ⟨b2, o2 + k * 2, none⟩ = some (.int .i64 x.1) ∧ w'.cell? ⟨b2, o2 + k * 2 + 1, none⟩ = some (.int .i64 x.2)) :=
        fun w' h => ⟨h.cell g0, h.cell g1, h.cell k0, h.cell k1⟩
      clear g0 g1 k0 k1
      refine wp_region_shut Ext (fun w' => Ext wr w') (fun _ => none) (by kernel_rfl) (by kernel_rfl) (fun _ _ h k => h.trans k) (fun i R h => by cases h) (Ext.drew (Ext.refl wr)) ?_
      refine wM_val ?ua0 rfl rfl Ext.refl (fun w' hD => ?ha0) (fun pha0 => ?na0)
      case ha0 =>
        obtain ⟨d0, d1, d2, d3⟩ := FX.out _ hD.1
        go_simp; rfl
      simp only [Act.put, List.setIfInBounds_toArray, List.set_cons_succ, List.set_cons_zero, Nat.reduceAdd]
      refine wM_val ?ua1 rfl rfl Ext.refl (fun w' hD => ?ha1) (fun pha1 => ?na1)
      case ha1 =>
        obtain ⟨d0, d1, d2, d3⟩ := FX.out _ hD.1
        go_simp; rfl
      simp only [Act.put, List.setIfInBounds_toArray, List.set_cons_succ, List.set_cons_zero, Nat.reduceAdd]
      refine wM_val ?ua2 rfl rfl Ext.refl (fun w' hD => ?ha2) (fun pha2 => ?na2)
      case ha2 =>
        obtain ⟨d0, d1, d2, d3⟩ := FX.out _ hD.1
        go_simp; rfl
      simp only [Act.put, List.setIfInBounds_toArray, List.set_cons_succ, List.set_cons_zero, Nat.reduceAdd]
      refine wM_val ?ua3 rfl rfl Ext.refl (fun w' hD => ?ha3) (fun pha3 => ?na3)
      case ha3 =>
        obtain ⟨d0, d1, d2, d3⟩ := FX.out _ hD.1
        go_simp; rfl
      simp only [Act.put, List.setIfInBounds_toArray, List.set_cons_succ, List.set_cons_zero, Nat.reduceAdd]
      refine wM_val ?ua4 rfl rfl Ext.refl (fun w' hD => ?ha4) (fun pha4 => ?na4)
      case ha4 =>
        obtain ⟨d0, d1, d2, d3⟩ := FX.out _ hD.1
        go_simp; rfl
      simp only [Act.put, List.setIfInBounds_toArray, List.set_cons_succ, List.set_cons_zero, Nat.reduceAdd]
      refine wM_val ?ua5 rfl rfl Ext.refl (fun w' hD => ?ha5) (fun pha5 => ?na5)
      case ha5 =>
        obtain ⟨d0, d1, d2, d3⟩ := FX.out _ hD.1
        go_simp; rfl
      simp only [Act.put, List.setIfInBounds_toArray, List.set_cons_succ, List.set_cons_zero, Nat.reduceAdd]
      refine wM_val ?ua6 rfl rfl Ext.refl (fun w' hD => ?ha6) (fun pha6 => ?na6)
      case ha6 =>
        obtain ⟨d0, d1, d2, d3⟩ := FX.out _ hD.1
        go_simp; rfl
      simp only [Act.put, List.setIfInBounds_toArray, List.set_cons_succ, List.set_cons_zero, Nat.reduceAdd]
      refine wM_val ?ua7 rfl rfl Ext.refl (fun w' hD => ?ha7) (fun pha7 => ?na7)
      case ha7 =>
        obtain ⟨d0, d1, d2, d3⟩ := FX.out _ hD.1
        go_simp; rfl
      simp only [Act.put, List.setIfInBounds_toArray, List.set_cons_succ, List.set_cons_zero, Nat.reduceAdd]
      refine wM_val (.bool false) rfl rfl Ext.refl (fun w' hD => ?ha8) (fun pha8 => ?na8)
      case ha8 =>
        have e := run_ne_bp w' x.1 x.2
        go_simp
      simp only [Act.put, List.setIfInBounds_toArray, List.set_cons_succ, List.set_cons_zero, Nat.reduceAdd]
      refine wM_nil ?_
      intro w9 hw9 hF9
      go_wp2
      go_roundw
      case rel => exact ⟨k + 1, by omega, by go_num, hx.trans hw9⟩
      case measure => simp [intOf]; omega
    · have hlt' : ¬ (k : Int) < (l.length : Int) := by omega
      go_wp2
      go_ret
      exact ⟨rfl, hx⟩

theorem eq_bps (A A' : Option Addr) (c c' : Nat) (l : List (Int × Int)) (w : World) (hA : Prs w A l) (hB : Prs w A' l) (hl : l.length ≤ 9223372036854775807) :
    Calls Try.prog 44 #[.slice A l.length c, .slice A' l.length c'] w fun e w' => e = .returned (.bool true) ∧ Ext w w' := by
  go_enter Try.func44, Try.ntmps44
  go_wp2_with fail
  refine (equal_bps A A' c c' l w hA hB hl).mono ?_
  rintro e w1 ⟨rfl, hb⟩
  go_wp2
  go_ret
  exact ⟨rfl, hb⟩

set_option maxRecDepth 100000 in
set_option maxHeartbeats 1000000 in
theorem equal_wgs (A A' : Option Addr) (c c' : Nat) (l : List Wg) (w : World) (hA : Wgs w A l) (hB : Wgs w A' l) (hl : l.length ≤ 9223372036854775807) :
    Calls Try.prog 120 #[.slice A l.length c, .slice A' l.length c'] w fun e w' => e = .returned (.bool true) ∧ Ext w w' := by
  go_enter Try.func120, Try.ntmps120
  go_wp2
  go_loopw [5, 13] (fun _ i wr => ∃ k : Nat, k ≤ l.length ∧ i = .int .i64 (k : Int) ∧ Ext w wr) (fun _ i _ => l.length - (intOf i).toNat)
  case atStart => exact ⟨0, Nat.zero_le _, rfl, Ext.refl _⟩
  case round =>
    obtain ⟨k, hk, rfl, hx⟩ := hrel
    by_cases hlt : k < l.length
    · have hlt' : (k : Int) < (l.length : Int) := by omega
      obtain ⟨x, hx1⟩ := get_of_lt l k hlt
      obtain ⟨b1, o1, rfl, g0, g1, g2, g3, g4⟩ := Wgs.at_ (Rows.ext hA hx) hx1
      obtain ⟨b2, o2, rfl, k0, k1, k2, k3, k4⟩ := Wgs.at_ (Rows.ext hB hx) hx1
      clear hx1
      go_wp2
      have FX : Hid (∀ w', Ext wr w' → w'.cell? ⟨b1, o1 + k * 5, none⟩ = some (.int .i64 x.mo) ∧ w'.cell? ⟨b1, o1 + k * 5 + 1, none⟩ = some (.int .i64 x.sl) ∧ w'.cell? ⟨b1, o1 + k * 5 + 2, none⟩ = some (.int .i64 x.sh) ∧ w'.cell? ⟨b1, o1 + k * 5 + 3, none⟩ = some (.int .i64 x.ml) ∧ w'.cell? ⟨b1, o1 + k * 5 + 4, none⟩ = some (.int .i64 x.mh) ∧ w'.cell? ⟨b2, o2 + k * 5, none⟩ = some (.int .i64 x.mo) ∧ w'.cell? ⟨b2, o2 + k * 5 + 1, none⟩ = some (.int .i64 x.sl) ∧ w'.cell? ⟨b2, o2 + k * 5 + 2, none⟩ = some (.int .i64 x.sh) ∧ w'.cell? ⟨b2, o2 + k * 5 + 3, none⟩ = some (.int .i64 x.ml) ∧ w'.cell? ⟨b2, o2 + k * 5 + 4, none⟩ = some (.int .i64 x.mh)) :=
        fun w' h => ⟨h.cell g0, h.cell g1, h.cell g2, h.cell g3, h.cell g4, h.cell k0, h.cell k1, h.cell k2, h.cell k3, h.cell k4⟩
      clear g0 g1 g2 g3 g4 k0 k1 k2 k3 k4
      refine wp_region_shut Ext (fun w' => Ext wr w') (fun _ => none) (by kernel_rfl) (by kernel_rfl) (fun _ _ h k => h.trans k) (fun i R h => by cases h) (Ext.drew (Ext.refl wr)) ?_
      refine wM_val ?ua0 rfl rfl Ext.refl (fun w' hD => ?ha0) (fun pha0 => ?na0)
      case ha0 =>
        obtain ⟨d0, d1, d2, d3, d4, d5, d6, d7, d8, d9⟩ := FX.out _ hD.1
        go_simp; rfl
      simp only [Act.put, List.setIfInBounds_toArray, List.set_cons_succ, List.set_cons_zero, Nat.reduceAdd]
      refine wM_val ?ua1 rfl rfl Ext.refl (fun w' hD => ?ha1) (fun pha1 => ?na1)
      case ha1 =>
        obtain ⟨d0, d1, d2, d3, d4, d5, d6, d7, d8, d9⟩ := FX.out _ hD.1
        go_simp; rfl
      simp only [Act.put, List.setIfInBounds_toArray, List.set_cons_succ, List.set_cons_zero, Nat.reduceAdd]
      refine wM_val ?ua2 rfl rfl Ext.refl (fun w' hD => ?ha2) (fun pha2 => ?na2)
      case ha2 =>
        obtain ⟨d0, d1, d2, d3, d4, d5, d6, d7, d8, d9⟩ := FX.out _ hD.1
        go_simp; rfl
      simp only [Act.put, List.setIfInBounds_toArray, List.set_cons_succ, List.set_cons_zero, Nat.reduceAdd]
      refine wM_val ?ua3 rfl rfl Ext.refl (fun w' hD => ?ha3) (fun pha3 => ?na3)
      case ha3 =>
        obtain ⟨d0, d1, d2, d3, d4, d5, d6, d7, d8, d9⟩ := FX.out _ hD.1
        go_simp; rfl
      simp only [Act.put, List.setIfInBounds_toArray, List.set_cons_succ, List.set_cons_zero, Nat.reduceAdd]
      refine wM_val ?ua4 rfl rfl Ext.refl (fun w' hD => ?ha4) (fun pha4 => ?na4)
      case ha4 =>
        obtain ⟨d0, d1, d2, d3, d4, d5, d6, d7, d8, d9⟩ := FX.out _ hD.1
        go_simp; rfl
      simp only [Act.put, List.setIfInBounds_toArray, List.set_cons_succ, List.set_cons_zero, Nat.reduceAdd]
      refine wM_val ?ua5 rfl rfl Ext.refl (fun w' hD => ?ha5) (fun pha5 => ?na5)
      case ha5 =>
        obtain ⟨d0, d1, d2, d3, d4, d5, d6, d7, d8, d9⟩ := FX.out _ hD.1
        go_simp; rfl
      simp only [Act.put, List.setIfInBounds_toArray, List.set_cons_succ, List.set_cons_zero, Nat.reduceAdd]
      refine wM_val ?ua6 rfl rfl Ext.refl (fun w' hD => ?ha6) (fun pha6 => ?na6)
      case ha6 =>
        obtain ⟨d0, d1, d2, d3, d4, d5, d6, d7, d8, d9⟩ := FX.out _ hD.1
        go_simp; rfl
      simp only [Act.put, List.setIfInBounds_toArray, List.set_cons_succ, List.set_cons_zero, Nat.reduceAdd]
      refine wM_val ?ua7 rfl rfl Ext.refl (fun w' hD => ?ha7) (fun pha7 => ?na7)
      case ha7 =>
        obtain ⟨d0, d1, d2, d3, d4, d5, d6, d7, d8, d9⟩ := FX.out _ hD.1
        go_simp; rfl
      simp only [Act.put, List.setIfInBounds_toArray, List.set_cons_succ, List.set_cons_zero, Nat.reduceAdd]
      refine wM_val (.bool false) rfl rfl Ext.refl (fun w' hD => ?ha8) (fun pha8 => ?na8)
      case ha8 =>
        have e := run_ne_wg w' x.mo x.sl x.sh x.ml x.mh
        go_simp
      simp only [Act.put, List.setIfInBounds_toArray, List.set_cons_succ, List.set_cons_zero, Nat.reduceAdd]
      refine wM_nil ?_
      intro w9 hw9 hF9
      go_wp2
      go_roundw
      case rel => exact ⟨k + 1, by omega, by go_num, hx.trans hw9⟩
      case measure => simp [intOf]; omega
    · have hlt' : ¬ (k : Int) < (l.length : Int) := by omega
      go_wp2
      go_ret
      exact ⟨rfl, hx⟩

theorem eq_wgs (A A' : Option Addr) (c c' : Nat) (l : List Wg) (w : World) (hA : Wgs w A l) (hB : Wgs w A' l) (hl : l.length ≤ 9223372036854775807) :
    Calls Try.prog 99 #[.slice A l.length c, .slice A' l.length c'] w fun e w' => e = .returned (.bool true) ∧ Ext w w' := by
  go_enter Try.func99, Try.ntmps99
  go_wp2_with fail
  refine (equal_wgs A A' c c' l w hA hB hl).mono ?_
  rintro e w1 ⟨rfl, hb⟩
  go_wp2
  go_ret
  exact ⟨rfl, hb⟩

set_option maxRecDepth 100000 in
set_option maxHeartbeats 4000000 in
theorem same_yes (v v' : Value) (h : Hs) (w : World) (hc : HsR w v h) (hd : HsR w v' h) (hs : h.sized) :
    Calls Try.prog 43 #[v, v'] w fun e w' => e = .returned (.bool true) ∧ Ext w w' := by
  obtain ⟨A, c, rfl, hA, -⟩ := hc
  obtain ⟨A', c', rfl, hB, -⟩ := hd
  obtain ⟨N, hN⟩ : ∃ N : Nat, h.ws.length = N := ⟨_, rfl⟩
  have HN := hid hN
  unfold hval
  rw [hN]
  obtain ⟨W1, hW1⟩ : ∃ W1, (w.alloc (.cells #[.int .i64 h.mo, .int .i64 h.pk, .slice A N c] 25)).alloc (.cells #[.int .i64 h.mo, .int .i64 h.pk, .slice A' N c'] 25) = W1 := ⟨_, rfl⟩
  have hx1 : Ext w W1 := by rw [← hW1]; exact (Ext.alloc (Ext.refl w) _).alloc _
  have FX : Hid (∀ w', Ext W1 w' → (w'.cell? ⟨w.heap.size, 0, none⟩ = some (.int .i64 h.mo) ∧ w'.cell? ⟨w.heap.size, 1, none⟩ = some (.int .i64 h.pk) ∧ w'.cell? ⟨w.heap.size, 2, none⟩ = some (.slice A N c)) ∧ (w'.cell? ⟨w.heap.size + 1, 0, none⟩ = some (.int .i64 h.mo) ∧ w'.cell? ⟨w.heap.size + 1, 1, none⟩ = some (.int .i64 h.pk) ∧ w'.cell? ⟨w.heap.size + 1, 2, none⟩ = some (.slice A' N c'))) := fun w' h =>
    ⟨⟨h.cell (by rw [← hW1]; simp [go_sem]), h.cell (by rw [← hW1]; simp [go_sem]), h.cell (by rw [← hW1]; simp [go_sem])⟩, h.cell (by rw [← hW1]; simp [go_sem]), h.cell (by rw [← hW1]; simp [go_sem]), h.cell (by rw [← hW1]; simp [go_sem])⟩
  have KE := eq_wgs A A' c c' h.ws W1 (Rows.ext hA hx1) (Rows.ext hB hx1) hs
  rw [hN] at KE
  have KE := hid KE
  obtain ⟨⟨q0, q1, q2⟩, p0, p1, p2⟩ := FX.out W1 (Ext.refl _)
  clear hN hA hB
  go_enter Try.func43, Try.ntmps43
  go_wp2_with fail
  try rw [hW1]
  clear hW1 q0 q1 q2 p0 p1 p2
  refine KE.out.mono ?_
  rintro e w1 ⟨rfl, h1⟩
  go_wp2
  go_ret
  exact ⟨rfl, hx1.trans h1⟩
theorem hs_len_cell (w : World) (h : Hs) (T : TypeId) (A : Option Addr) (c : Nat) : (w.alloc (.cells #[.int .i64 h.mo, .int .i64 h.pk, .slice A h.ws.length c] T)).cell? ⟨w.heap.size, 2, none⟩ = some (.slice A h.ws.length c) := by simp [go_sem]
set_option maxRecDepth 100000 in
theorem great_any (v : Value) (h : Hs) (w : World) (hr : HsR w v h) :
    Calls Try.prog 33 #[v] w fun e w' => e = .returned (.bool (decide (20 < h.ws.length))) ∧ Ext w w' := by
  obtain ⟨A, c, rfl, -, -⟩ := hr
  have q2 := hs_len_cell w h 25 A c
  obtain ⟨W0, hW0⟩ : ∃ W0, w.alloc (.cells #[.int .i64 h.mo, .int .i64 h.pk, .slice A h.ws.length c] 25) = W0 := ⟨_, rfl⟩
  have hx0 : Ext w W0 := by rw [← hW0]; exact Ext.alloc (Ext.refl w) _
  rw [hW0] at q2
  have HW0 := hid hW0
  clear hW0
  unfold hval
  by_cases h1 : 20 < h.ws.length
  · have h1' : (h.ws.length : Int) > 20 := by omega
    have HE : Hid (decide (20 < h.ws.length) = true) := decide_eq_true h1
    clear h1
    go_enter Try.func33, Try.ntmps33
    go_upto_region 1 with fail
    rw [HW0.out]
    go_wp2
    go_ret
    exact ⟨ret_of (bool_of HE.out.symm), hx0⟩
  · have h1' : ¬ (h.ws.length : Int) > 20 := by omega
    have HE : Hid (decide (20 < h.ws.length) = false) := decide_eq_false h1
    clear h1
    go_enter Try.func33, Try.ntmps33
    go_upto_region 1 with fail
    rw [HW0.out]
    go_wp2
    go_ret
    exact ⟨ret_of (bool_of HE.out.symm), hx0⟩
set_option maxRecDepth 100000 in
theorem wide_any (v : Value) (h : Hs) (n : Nat) (w : World) (hr : HsR w v h) :
    Calls Try.prog 34 #[v, .int .i64 (n : Int)] w fun e w' => e = .returned (.bool (decide (n < h.ws.length) && decide (h.ws.length ≤ 14))) ∧ Ext w w' := by
  obtain ⟨A, c, rfl, -, -⟩ := hr
  have q2 := hs_len_cell w h 25 A c
  obtain ⟨W0, hW0⟩ : ∃ W0, w.alloc (.cells #[.int .i64 h.mo, .int .i64 h.pk, .slice A h.ws.length c] 25) = W0 := ⟨_, rfl⟩
  have hx0 : Ext w W0 := by rw [← hW0]; exact Ext.alloc (Ext.refl w) _
  rw [hW0] at q2
  have HW0 := hid hW0
  clear hW0
  unfold hval
  obtain ⟨R, hR⟩ : ∃ R, (decide (n < h.ws.length) && decide (h.ws.length ≤ 14)) = R := ⟨_, rfl⟩
  have HR := hid hR
  rw [hR]
  clear hR
  by_cases h1 : n < h.ws.length
  · have h1' : (h.ws.length : Int) > (n : Int) := by omega
    by_cases h2 : h.ws.length ≤ 14
    · have h2' : (h.ws.length : Int) ≤ 14 := by omega
      have HE : Hid (R = true) := by unfold Hid; rw [← HR.out, decide_eq_true h1, decide_eq_true h2]; rfl
      clear h1 h2
      go_enter Try.func34, Try.ntmps34
      go_upto_region 1 with fail
      rw [HW0.out]
      go_wp2
      go_ret
      exact ⟨ret_of (bool_of HE.out.symm), hx0⟩
    · have h2' : ¬ (h.ws.length : Int) ≤ 14 := by omega
      have HE : Hid (R = false) := by unfold Hid; rw [← HR.out, decide_eq_true h1, decide_eq_false h2]; rfl
      clear h1 h2
      go_enter Try.func34, Try.ntmps34
      go_upto_region 1 with fail
      rw [HW0.out]
      go_wp2
      go_ret
      exact ⟨ret_of (bool_of HE.out.symm), hx0⟩
  · have h1' : ¬ (h.ws.length : Int) > (n : Int) := by omega
    have HE : Hid (R = false) := by unfold Hid; rw [← HR.out, decide_eq_false h1]; rfl
    clear h1
    go_enter Try.func34, Try.ntmps34
    go_upto_region 1 with fail
    rw [HW0.out]
    go_wp2
    go_ret
    exact ⟨ret_of (bool_of HE.out.symm), hx0⟩

set_option maxRecDepth 100000 in
set_option maxHeartbeats 4000000 in
theorem theirs_any (v : Value) (h : Hs) (w : World) (hr : HsR w v h) (hl : h.ws.length ≤ 1000) :
    Calls Try.prog 36 #[v] w fun e w' => ∃ A c, e = .returned (hval h A c) ∧ w'.ownsRow w.heap.size 92 5 (.slice A h.ws.length c) h.ws.length (layWg.rows h.ws) ∧ Ext w w' := by
  obtain ⟨A, c, rfl, hrw, hcap⟩ := hr
  obtain ⟨N, hN⟩ : ∃ N : Nat, h.ws.length = N := ⟨_, rfl⟩
  have HN := hid hN
  unfold hval
  rw [hN] at hl ⊢
  obtain ⟨W0, hW0⟩ : ∃ W0, w.alloc (.cells #[.int .i64 h.mo, .int .i64 h.pk, .slice A N c] 25) = W0 := ⟨_, rfl⟩
  obtain ⟨W1, hW1⟩ : ∃ W1, W0.alloc (.cells #[.int .i64 0, .int .i64 0, .slice none 0 0] 75) = W1 := ⟨_, rfl⟩
  obtain ⟨W2, hW2⟩ : ∃ W2, W1.alloc (.cells #[.int .i64 h.mo, .int .i64 h.pk, .slice none 0 0] 75) = W2 := ⟨_, rfl⟩
  have hx0 : Ext w W0 := by rw [← hW0]; exact Ext.alloc (Ext.refl w) _
  have hx01 : Ext W0 W1 := by rw [← hW1]; exact Ext.alloc (Ext.refl _) _
  have hx12 : Ext W1 W2 := by rw [← hW2]; exact Ext.alloc (Ext.refl _) _
  have s0 : W0.heap.size = w.heap.size + 1 := by rw [← hW0]; simp
  have s1 : W1.heap.size = w.heap.size + 1 + 1 := by rw [← hW1]; simp [s0]
  have s2 : W2.heap.size = W1.heap.size + 1 := by rw [← hW2]; simp
  have hx2 := hx0.trans (hx01.trans hx12)
  have b0 : W1.heap[w.heap.size]? = some (.cells #[.int .i64 h.mo, .int .i64 h.pk, .slice A N c] 25 (0, 0)) := (Below.block hx01 _ (by omega)).trans (by rw [← hW0]; exact heap_alloc_new w _)
  have b1 : W2.heap[w.heap.size + 1]? = some (.cells #[.int .i64 0, .int .i64 0, .slice none 0 0] 75 (0, 0)) := (Below.block hx12 _ (by omega)).trans (by rw [← hW1, ← s0]; exact heap_alloc_new W0 _)
  have b2 : W2.heap[W1.heap.size]? = some (.cells #[.int .i64 h.mo, .int .i64 h.pk, .slice none 0 0] 75 (0, 0)) := by rw [← hW2]; exact heap_alloc_new W1 _
  have b02 := (Below.block hx12 _ (by omega)).trans b0
  obtain ⟨B2, hB2⟩ : ∃ B2, W1.heap.size = B2 := ⟨_, rfl⟩
  rw [hB2] at b2 s2 s1
  have HB1 := hid b1
  have HS2 := hid s2
  have HB2 := hid hB2
  have HB2b : Hid (w.heap.size + 1 + 1 = B2) := s1.symm
  have HRW := hid hrw
  have HW0 := hid hW0
  have HW1 := hid hW1
  have HW2 := hid hW2
  have HS0 := hid s0
  obtain ⟨c0, c1, c2, -⟩ := house_cells b0
  have hlw : w.heap.size ≤ B2 := by omega
  clear hW0 hW1 hW2 s0 s1 s2 hN hrw hB2 b0 b1 hx0 hx01 hx12
  go_enter Try.func36, Try.ntmps36
  go_upto_region 1 with fail
  rw [HW0.out, HW1.out]
  try rw [HS0.out]
  clear HW0 HW1 HS0
  go_upto_region 2 with fail
  rw [HW2.out]
  try rw [HB2.out]
  try rw [HB2b.out]
  clear HW2 c0 c1 c2
  obtain ⟨c0, c1, c2, -⟩ := house_cells b02
  go_wp2
  clear c0 c1 c2 b02
  go_loopw [14] (fun i wr => ∃ (k : Nat) (A' : Option Addr) (c' : Nat), i = .int .i64 (k : Int) ∧ k ≤ N ∧ wr.heap[B2]? = some (.cells #[.int .i64 h.mo, .int .i64 h.pk, .slice A' k c'] 75 (0, 0)) ∧ wr.ownsRow (B2 + 1) 92 5 (.slice A' k c') k (layWg.rows (h.ws.take k)) ∧ Bel B2 W2 wr) (fun i _ => N - (intOf i).toNat)
  case atStart => exact ⟨0, none, 0, rfl, Nat.zero_le _, b2, own_nil _ _ _ _, Bel.refl _ _⟩
  case round =>
    obtain ⟨k, A', c', rfl, hk, hbu, ho, hbl⟩ := hrel
    have hxw := Bel.extw hx2 hbl hlw
    by_cases hlt : k < N
    · have hlt' : (k : Int) < (N : Int) := by omega
      obtain ⟨x, hxk⟩ := get_of_lt h.ws k (by rw [HN.out]; exact hlt)
      obtain ⟨b, off, e1, g0, g1, g2, g3, g4⟩ := Wgs.at_ (Rows.ext HRW.out hxw) hxk
      subst e1
      have HNX : Hid (h.ws.take (k + 1) = h.ws.take k ++ [x]) := by unfold Hid; rw [List.take_add_one, hxk]; rfl
      clear hxk
      go_upto_region 5 with fail
      obtain ⟨W6, hW6⟩ : ∃ W6, wr.alloc (.cells #[.int .i64 x.mo, .int .i64 x.sl, .int .i64 x.sh, .int .i64 x.ml, .int .i64 x.mh] 55) = W6 := ⟨_, rfl⟩
      have hx6 : Ext wr W6 := by rw [← hW6]; exact (Ext.refl _).alloc _
      have bx : W6.heap[wr.heap.size]? = some (.cells #[.int .i64 x.mo, .int .i64 x.sl, .int .i64 x.sh, .int .i64 x.ml, .int .i64 x.mh] 55 (0, 0)) := by rw [← hW6]; exact heap_alloc_new wr _
      try rw [hW6]
      clear hW6 g0 g1 g2 g3 g4
      have hc := fun i u hu => blk_cells (xs := [.int .i64 x.mo, .int .i64 x.sl, .int .i64 x.sh, .int .i64 x.ml, .int .i64 x.mh]) bx i u hu
      have g0 := hc 0 _ rfl
      have g1 := hc 1 _ rfl
      have g2 := hc 2 _ rfl
      have g3 := hc 3 _ rfl
      have g4 := hc 4 _ rfl
      have bu6 := (Below.block hx6 _ (Array.getElem?_eq_some_iff.1 hbu).1).trans hbu
      have ho6 := own_below ho hx6
      have hbl6 := hbl.trans hx6.bel
      have hz6 := hbl6.size
      have hs2 := HS2.out
      obtain ⟨c0, c1, c2, fz⟩ := house_cells bu6
      clear hc bx hbu ho hbl hx6
      go_wp2_with (at_builtin; refine wpList_append_rd2 _ rfl _ _ 73 rfl elem_rwg (B2 + 1) _ k (layWg.rows (h.ws.take k)) rfl (own_below ho6 (Ext.alloc (Ext.refl _) _)) (some ⟨W6.heap.size, 0, none⟩) 1 1 (layWg.cells x) rfl rfl (rd_blk2 (heap_alloc_new W6 _)) (layWg.one x) (by omega) (by simp; omega) ?_)
      intro A5 c5 w8 own8 bel8 gr8 at8
      obtain ⟨W8, hW8⟩ : ∃ W8, W6.alloc (.cells (layWg.cells x).toArray 92) = W8 := ⟨_, rfl⟩
      have hx8 : Ext W6 W8 := by rw [← hW8]; exact Ext.alloc (Ext.refl _) _
      have gr8' : W8.grownBy w8 (Value.slice A' k c').ownBlock := by rw [← hW8]; exact gr8
      have hS8 : BelS (fun j => (Value.slice A' k c').ownBlock = some j) W8 w8 := (BelS.refl _ W8).grown gr8' (fun k e => e)
      have hne : Hid (∀ j, (Value.slice A' k c').ownBlock = some j → B2 + 1 ≤ j) := fun j hj => (ho6.lt j hj).1
      have hbl8 : Bel B2 W2 w8 := (hbl6.trans hx8.bel).then_ hS8 (fun i hi hs => by have := hne.out i hs; omega)
      have bu8 := hS8.heap ((Below.block hx8 _ (Array.getElem?_eq_some_iff.1 bu6).1).trans bu6) (fun e => by have := hne.out _ e; omega)
      rw [← layWg.rows_single, ← layWg.rows_app, ← HNX.out] at own8
      have HO8 := hid own8
      clear own8 gr8 gr8' at8 bel8 hW8 c0 c1 c2 fz g0 g1 g2 g3 g4
      obtain ⟨c0, c1, c2, fz⟩ := house_cells bu8
      go_wp2
      go_roundw
      case rel =>
        refine ⟨k + 1, A5, c5, by go_num, by omega, heap_setW bu8 _, ?_, hbl8.setCell 2 _⟩
        exact ((Bel.refl B2 w8).setCell 2 _).own HO8.out (fun g hg => by have := (HO8.out.lt g hg).1; omega)
      case measure => simp [intOf]; omega
    · have hlt' : ¬ (k : Int) < (N : Int) := by omega
      obtain rfl : k = N := by omega
      rw [List.take_of_length_le (by rw [HN.out]; exact Nat.le_refl _)] at ho
      have hs2 := HS2.out
      have bz := hbl.heap HB1.out (by have := HB2b.out; omega)
      obtain ⟨c0, c1, c2, fz⟩ := house_cells hbu
      obtain ⟨z0, z1, z2, fz2⟩ := house_cells bz
      obtain ⟨W, hW, q1, q2⟩ := put_house2 (v0 := .int .i64 h.mo) (v1 := .int .i64 h.pk) (v2 := .slice A' k c') bz
      obtain ⟨r0, r1, r2, -⟩ := house_cells q1
      have hsw : w.heap.size ≤ B2 + 1 := by omega
      have hE : Ext w W := ((Ext.belS (S := fun j => w.heap.size ≤ j) hxw).trans (q2.mono fun k _ hk => by subst hk; exact Nat.le_succ _)).ext (fun k hk hS => by omega)
      have hO := q2.own (own_base ho hsw) (fun g hg e => by have := (ho.lt g hg).1; have := HB2b.out; omega)
      clear hbu bz q1 q2 ho hbl hs2
      go_wp2
      try rw [hW]
      refine bodyPost_ret (v := .agg #[.int .i64 h.mo, .int .i64 h.pk, .slice A' k c']) ?_ rfl ⟨A', c', rfl, hO, hE⟩
      simp [results, Try.results36, go_sem, r0, r1, r2]
end Go.Proofs.Ytjnobdcbbboeeaa
