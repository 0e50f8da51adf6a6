/- The examples of layer 5's chapter, computed plainly. slices.Equal and laurelkit.Eq over numbers. Eq over equal rows of pairs, blasts and reports. Printed by my gen_feq.py. The walks of Row and awake. The walks of fog's Far and Hears. Printed by my gen_ffar.py. -/
import Derived.Test.YtlonpgbapiemcaaGreatG4
import Derived.Test.YtlonpgbapiemcaaGreatG1
import Derived.Test.YtlonpgbapiemcaaGreatProg
import Derived.Test.YtlonpgbapiemcaaGreatG2
import Derived.Laws.StructEq
import Derived.Laws.ResultCell
namespace Go.Proofs.YtlonpgbapiemcaaGreat
open Go Go.RowKit
set_option linter.unusedVariables false
set_option linter.unusedSimpArgs false

/-- The fog of the examples. -/
def rowF (r : List Rp) : Fg := ⟨4, 2, [(0, 1), (2, 1), (2, 3)], [⟨1, 0, 1⟩, ⟨2, 3, 0⟩], [⟨[1], r⟩]⟩
theorem row_sized (r : List Rp) (h : r.length ≤ 1000) : (rowF r).sized := ⟨by simp [rowF], by simp [rowF], by simp [rowF], by intro c hc; simp [rowF] at hc; subst hc; exact ⟨by simp, h⟩⟩
def r1 : List Rp := [⟨0, true⟩]
def r2 : List Rp := [⟨0, true⟩, ⟨1, true⟩]
def r3 : List Rp := [⟨0, false⟩]
theorem row_c0 : cartE (rowF []) 0 = 0 := by decide +kernel
theorem row_c1 : cartE (rowF r1) 0 = 0 := by decide +kernel
theorem row_count0 : countV (rowF []) 0 = 8 := by decide +kernel
theorem row_count1 : countV (rowF r1) 0 = 5 := by decide +kernel
theorem row_at : atE (rowF r3) 0 2 = 0 ∧ atL (rowF r3) 0 2 = [1, 2, 3] := by decide +kernel
theorem row_heard : heardE (rowF r1) 0 1 = 0 ∧ heardA (rowF r1) 0 1 = false ∧ heardN (rowF r1) 0 1 = true := by decide +kernel
theorem row_clash : clashE (rowF r2) 0 = 0 ∧ clashL (rowF r2) 0 = [0, 1] := by decide +kernel
theorem row_dec0 : decideE (rowF r1) 0 2 0 = 0 ∧ decideL (rowF r1) 0 2 0 = [0, 1] := by decide +kernel
theorem row_dec1 : decideE (rowF r1) 0 2 1 = 0 ∧ decideL (rowF r1) 0 2 1 = [0, 2] := by decide +kernel
theorem row_twins : placedE (rowF r1) 0 2 3 = 0 ∧ twinsV (rowF r1) 0 2 3 = [(0, 1), (0, 2), (1, 2)] := by decide +kernel
end Go.Proofs.YtlonpgbapiemcaaGreat

namespace Go.Proofs.YtlonpgbapiemcaaGreat
open Go Go.RowKit
set_option linter.unusedVariables false
set_option linter.unusedSimpArgs false

theorem eq_drop {l m : List Int} {k : Nat} {x y : Int} (hx : l[k]? = some x) (hy : m[k]? = some y) : (l.drop k == m.drop k) = ((x == y) && (l.drop (k + 1) == m.drop (k + 1))) := by
  have h1 : k < l.length := (List.getElem?_eq_some_iff.1 hx).1
  have h2 : k < m.length := (List.getElem?_eq_some_iff.1 hy).1
  rw [List.drop_eq_getElem_cons h1, List.drop_eq_getElem_cons h2, (List.getElem?_eq_some_iff.1 hx).2, (List.getElem?_eq_some_iff.1 hy).2]
  rfl

set_option maxRecDepth 100000 in
set_option maxHeartbeats 1000000 in
theorem equal_int (A A' : Option Addr) (c c' : Nat) (l m : List Int) (w : World) (hA : Ints w A l) (hB : Ints w A' m) (hl : l.length ≤ 9223372036854775807) (hm : m.length ≤ 9223372036854775807) :
    Calls Tryz.prog 58 #[.slice A l.length c, .slice A' m.length c'] w fun e w' => e = .returned (.bool (l == m)) ∧ Ext w w' := by
  by_cases hlen : l.length = m.length
  · generalize hN : m.length = N at *
    have HF : Hid ((l.drop 0 == m.drop 0) = (l == m)) := rfl
    generalize hF : (l == m) = F at HF ⊢
    clear hF
    have hn1 : (l.length : Int) = N := by omega
    obtain rfl : l.length = N := hlen
    clear hn1
    have HN := hid hN
    clear hN
    go_enter Tryz.func58, Tryz.ntmps58
    go_wp2
    go_loopw [5, 13] (fun _ i wr => ∃ k : Nat, k ≤ l.length ∧ i = .int .i64 (k : Int) ∧ Ext w wr ∧ Hid ((l.drop k == m.drop k) = F)) (fun _ i _ => l.length - (intOf i).toNat)
    case atStart => exact ⟨0, Nat.zero_le _, rfl, Ext.refl _, HF⟩
    case round =>
      obtain ⟨k, hk, rfl, hx, HF⟩ := hrel
      by_cases hlt : k < l.length
      · have hlt' : (k : Int) < (l.length : Int) := by omega
        obtain ⟨x, hx1⟩ := get_of_lt l k hlt
        obtain ⟨y, hy1⟩ := get_of_lt m k (by rw [HN.out]; exact hlt)
        obtain ⟨b1, o1, rfl, g1⟩ := (hA.ext hx).at_ hx1
        obtain ⟨b2, o2, rfl, g2⟩ := (hB.ext hx).at_ hy1
        have HX : Hid (((x == y) && (l.drop (k + 1) == m.drop (k + 1))) = F) := by unfold Hid; rw [← HF.out, eq_drop hx1 hy1]
        clear HF hx1 hy1
        by_cases hxy : x = y
        · subst hxy
          have hq : (x != x) = false := by simp
          have HX2 : Hid ((l.drop (k + 1) == m.drop (k + 1)) = F) := by unfold Hid; rw [← HX.out]; simp
          go_wp2
          go_quiet (fail)
          go_wp2
          go_roundw
          case rel => exact ⟨k + 1, by omega, by go_num, hx.drewN _, HX2⟩
          case measure => simp [intOf]; omega
        · have hq : (x != y) = true := by simpa using hxy
          have HX2 : Hid (false = F) := by unfold Hid; rw [← HX.out]; simp [hxy]
          go_wp2
          go_quiet (fail)
          go_wp2
          go_ret
          exact ⟨ret_of (bool_of HX2.out), hx.drewN _⟩
      · have hlt' : ¬ (k : Int) < (l.length : Int) := by omega
        have HX2 : Hid (true = F) := by
          unfold Hid
          rw [← HF.out, List.drop_eq_nil_of_le (by omega), List.drop_eq_nil_of_le (by rw [HN.out]; omega)]; rfl
        go_wp2
        go_ret
        exact ⟨ret_of (bool_of HX2.out), hx⟩
  · have hq : ((l.length : Int) != (m.length : Int)) = true := by simp; omega
    have HF : Hid ((l == m) = false) := by
      unfold Hid
      rw [beq_eq_false_iff_ne]
      intro e; exact hlen (by rw [e])
    generalize hF : (l == m) = F at HF ⊢
    clear hF
    go_enter Tryz.func58, Tryz.ntmps58
    go_wp2
    go_ret
    exact ⟨ret_of (bool_of HF.out.symm), Ext.refl _⟩

theorem eq_int (A A' : Option Addr) (c c' : Nat) (l m : List Int) (w : World) (hA : Ints w A l) (hB : Ints w A' m) (hl : l.length ≤ 9223372036854775807) (hm : m.length ≤ 9223372036854775807) :
    Calls Tryz.prog 16 #[.slice A l.length c, .slice A' m.length c'] w fun e w' => e = .returned (.bool (l == m)) ∧ Ext w w' := by
  generalize hF : (l == m) = F
  have HF := hid hF
  clear hF
  go_enter Tryz.func16, Tryz.ntmps16
  go_wp2_with fail
  refine (equal_int A A' c c' l m w hA hB hl hm).mono ?_
  rw [HF.out]
  rintro e w1 ⟨rfl, hb⟩
  go_wp2
  go_ret
  exact ⟨rfl, hb⟩
end Go.Proofs.YtlonpgbapiemcaaGreat

namespace Go.Proofs.YtlonpgbapiemcaaGreat
open Go Go.RowKit
set_option linter.unusedVariables false
set_option linter.unusedSimpArgs false

theorem run_neq_op {P : Program} (w : World) {o : Oper} (ρ : Operand → Value) (t ty : TypeId) (x y : Operand) (ho : o.op = .binOp .neq t x y ty) (xs ys : Array Value) (hx : ρ x = .agg xs) (hy : ρ y = .agg ys) (b : Bool)
    (hg : P.eqGuardType P.depth t = false) (he : (Op.equalIn 10000 t (.agg xs) (.agg ys)).run P w = .ok b w) : (execOp ρ o).run P w = .ok (.value (.bool (!b))) w := by
  unfold execOp
  simp only [ho, hx, hy, Sem.run_bind, run_eqGuard_agg w .neq t x y xs ys hg, Result.andThen_ok, run_neq_struct w t xs ys, he, Sem.run_pure]
theorem run_eq_pair (w : World) (x y : Int) : (Op.equalIn 10000 78 (.agg #[.int .i64 x, .int .i64 y]) (.agg #[.int .i64 x, .int .i64 y])).run Tryz.prog w = .ok true w := by
  have h := run_equalIn_arr1 (P := Tryz.prog) w 9998 78 3 .i64 2 Tryz.underlying78 Tryz.underlying3 (by kernel_rfl) (by kernel_rfl) [x, y] [x, y] rfl rfl
  rw [beq_self_eq_true] at h
  exact h

theorem run_ne_bl (w : World) (x y z : Int) : (binOp .neq 39 (.agg #[.int .i64 x, .int .i64 y, .int .i64 z]) (.agg #[.int .i64 x, .int .i64 y, .int .i64 z])).run Tryz.prog w = .ok (.bool false) w := by
  have ht : Tryz.prog.underlying 39 = some (.struct (Tryz.prog.fieldsOf 39)) := by kernel_rfl
  have hp : Tryz.prog.stoodInHeld 39 = false := by kernel_rfl
  rw [run_neq_struct, run_equalIn_agg w _ _ _ _ ht hp]
  have hu := Tryz.underlying3
  have hu2 := Tryz.underlying4
  simp [Program.fieldsOf, Tryz.underlying39, Op.eqFields, go_sem, hu, hu2]

theorem run_ne_rp (w : World) (x : Int) (y : Bool) : (binOp .neq 82 (.agg #[.int .i64 x, .bool y]) (.agg #[.int .i64 x, .bool y])).run Tryz.prog w = .ok (.bool false) w := by
  have ht : Tryz.prog.underlying 82 = some (.struct (Tryz.prog.fieldsOf 82)) := by kernel_rfl
  have hp : Tryz.prog.stoodInHeld 82 = false := by kernel_rfl
  rw [run_neq_struct, run_equalIn_agg w _ _ _ _ ht hp]
  have hu := Tryz.underlying3
  have hu2 := Tryz.underlying4
  simp [Program.fieldsOf, Tryz.underlying82, Op.eqFields, go_sem, hu, hu2]

set_option maxRecDepth 100000 in
set_option maxHeartbeats 1000000 in
theorem equal_prs (A A' : Option Addr) (c c' : Nat) (l : List (Int × Int)) (w : World) (hA : Prs w A l) (hB : Prs w A' l) (hl : l.length ≤ 9223372036854775807) :
    Calls Tryz.prog 175 #[.slice A l.length c, .slice A' l.length c'] w fun e w' => e = .returned (.bool true) ∧ Ext w w' := by
  go_enter Tryz.func175, Tryz.ntmps175
  go_wp2
  go_loopw [5, 13] (fun _ i wr => ∃ k : Nat, k ≤ l.length ∧ i = .int .i64 (k : Int) ∧ Ext w wr) (fun _ i _ => l.length - (intOf i).toNat)
  case atStart => exact ⟨0, Nat.zero_le _, rfl, Ext.refl _⟩
  case round =>
    obtain ⟨k, hk, rfl, hx⟩ := hrel
    by_cases hlt : k < l.length
    · have hlt' : (k : Int) < (l.length : Int) := by omega
      obtain ⟨x, hx1⟩ := get_of_lt l k hlt
      obtain ⟨b1, o1, rfl, g0, g1⟩ := Prs.at_ (Rows.ext hA hx) hx1
      obtain ⟨b2, o2, rfl, k0, k1⟩ := Prs.at_ (Rows.ext hB hx) hx1
      clear hx1
      go_wp2
      have FX : Hid (∀ w', Ext wr w' → w'.cell? ⟨b1, o1 + k * 2, none⟩ = some (.int .i64 x.1) ∧ w'.cell? ⟨b1, o1 + k * 2 + 1, none⟩ = some (.int .i64 x.2) ∧ w'.cell? ⟨b2, o2 + k * 2, none⟩ = some (.int .i64 x.1) ∧ w'.cell? ⟨b2, o2 + k * 2 + 1, none⟩ = some (.int .i64 x.2)) :=
        fun w' h => ⟨h.cell g0, h.cell g1, h.cell k0, h.cell k1⟩
      clear g0 g1 k0 k1
      refine wp_region_shut Ext (fun w' => Ext wr w') (fun _ => none) (by kernel_rfl) (by kernel_rfl) (fun _ _ h k => h.trans k) (fun i R h => by cases h) (Ext.drew (Ext.refl wr)) ?_
      refine wM_val ?ua0 rfl rfl Ext.refl (fun w' hD => ?ha0) (fun pha0 => ?na0)
      case ha0 =>
        obtain ⟨d0, d1, d2, d3⟩ := FX.out _ hD.1
        go_simp; rfl
      simp only [Act.put, List.setIfInBounds_toArray, List.set_cons_succ, List.set_cons_zero, Nat.reduceAdd]
      refine wM_val ?ua1 rfl rfl Ext.refl (fun w' hD => ?ha1) (fun pha1 => ?na1)
      case ha1 =>
        obtain ⟨d0, d1, d2, d3⟩ := FX.out _ hD.1
        go_simp; rfl
      simp only [Act.put, List.setIfInBounds_toArray, List.set_cons_succ, List.set_cons_zero, Nat.reduceAdd]
      refine wM_val ?ua2 rfl rfl Ext.refl (fun w' hD => ?ha2) (fun pha2 => ?na2)
      case ha2 =>
        obtain ⟨d0, d1, d2, d3⟩ := FX.out _ hD.1
        go_simp; rfl
      simp only [Act.put, List.setIfInBounds_toArray, List.set_cons_succ, List.set_cons_zero, Nat.reduceAdd]
      refine wM_val ?ua3 rfl rfl Ext.refl (fun w' hD => ?ha3) (fun pha3 => ?na3)
      case ha3 =>
        obtain ⟨d0, d1, d2, d3⟩ := FX.out _ hD.1
        go_simp; rfl
      simp only [Act.put, List.setIfInBounds_toArray, List.set_cons_succ, List.set_cons_zero, Nat.reduceAdd]
      refine wM_val ?ua4 rfl rfl Ext.refl (fun w' hD => ?ha4) (fun pha4 => ?na4)
      case ha4 =>
        obtain ⟨d0, d1, d2, d3⟩ := FX.out _ hD.1
        go_simp; rfl
      simp only [Act.put, List.setIfInBounds_toArray, List.set_cons_succ, List.set_cons_zero, Nat.reduceAdd]
      refine wM_val ?ua5 rfl rfl Ext.refl (fun w' hD => ?ha5) (fun pha5 => ?na5)
      case ha5 =>
        obtain ⟨d0, d1, d2, d3⟩ := FX.out _ hD.1
        go_simp; rfl
      simp only [Act.put, List.setIfInBounds_toArray, List.set_cons_succ, List.set_cons_zero, Nat.reduceAdd]
      refine wM_val ?ua6 rfl rfl Ext.refl (fun w' hD => ?ha6) (fun pha6 => ?na6)
      case ha6 =>
        obtain ⟨d0, d1, d2, d3⟩ := FX.out _ hD.1
        go_simp; rfl
      simp only [Act.put, List.setIfInBounds_toArray, List.set_cons_succ, List.set_cons_zero, Nat.reduceAdd]
      refine wM_val ?ua7 rfl rfl Ext.refl (fun w' hD => ?ha7) (fun pha7 => ?na7)
      case ha7 =>
        obtain ⟨d0, d1, d2, d3⟩ := FX.out _ hD.1
        go_simp; rfl
      simp only [Act.put, List.setIfInBounds_toArray, List.set_cons_succ, List.set_cons_zero, Nat.reduceAdd]
      refine wM_val (.bool false) rfl rfl Ext.refl (fun w' hD => ?ha8) (fun pha8 => ?na8)
      case ha8 =>
        exact run_neq_op w' _ 78 78 (.tmp 19) (.tmp 23) rfl #[.int .i64 x.1, .int .i64 x.2] #[.int .i64 x.1, .int .i64 x.2] rfl rfl true Tryz.eqGuardType78 (run_eq_pair w' x.1 x.2)
      simp only [Act.put, List.setIfInBounds_toArray, List.set_cons_succ, List.set_cons_zero, Nat.reduceAdd]
      refine wM_nil ?_
      intro w9 hw9 hF9
      go_wp2
      go_roundw
      case rel => exact ⟨k + 1, by omega, by go_num, hx.trans hw9⟩
      case measure => simp [intOf]; omega
    · have hlt' : ¬ (k : Int) < (l.length : Int) := by omega
      go_wp2
      go_ret
      exact ⟨rfl, hx⟩

theorem eq_prs (A A' : Option Addr) (c c' : Nat) (l : List (Int × Int)) (w : World) (hA : Prs w A l) (hB : Prs w A' l) (hl : l.length ≤ 9223372036854775807) :
    Calls Tryz.prog 104 #[.slice A l.length c, .slice A' l.length c'] w fun e w' => e = .returned (.bool true) ∧ Ext w w' := by
  go_enter Tryz.func104, Tryz.ntmps104
  go_wp2_with fail
  refine (equal_prs A A' c c' l w hA hB hl).mono ?_
  rintro e w1 ⟨rfl, hb⟩
  go_wp2
  go_ret
  exact ⟨rfl, hb⟩

set_option maxRecDepth 100000 in
set_option maxHeartbeats 1000000 in
theorem equal_bls (A A' : Option Addr) (c c' : Nat) (l : List Bl) (w : World) (hA : Blasts w A l) (hB : Blasts w A' l) (hl : l.length ≤ 9223372036854775807) :
    Calls Tryz.prog 233 #[.slice A l.length c, .slice A' l.length c'] w fun e w' => e = .returned (.bool true) ∧ Ext w w' := by
  go_enter Tryz.func233, Tryz.ntmps233
  go_wp2
  go_loopw [5, 13] (fun _ i wr => ∃ k : Nat, k ≤ l.length ∧ i = .int .i64 (k : Int) ∧ Ext w wr) (fun _ i _ => l.length - (intOf i).toNat)
  case atStart => exact ⟨0, Nat.zero_le _, rfl, Ext.refl _⟩
  case round =>
    obtain ⟨k, hk, rfl, hx⟩ := hrel
    by_cases hlt : k < l.length
    · have hlt' : (k : Int) < (l.length : Int) := by omega
      obtain ⟨x, hx1⟩ := get_of_lt l k hlt
      obtain ⟨b1, o1, rfl, g0, g1, g2⟩ := Blasts.at_ (Rows.ext hA hx) hx1
      obtain ⟨b2, o2, rfl, k0, k1, k2⟩ := Blasts.at_ (Rows.ext hB hx) hx1
      clear hx1
      go_wp2
      have FX : Hid (∀ w', Ext wr w' → w'.cell? ⟨b1, o1 + k * 3, none⟩ = some (.int .i64 x.mi) ∧ w'.cell? ⟨b1, o1 + k * 3 + 1, none⟩ = some (.int .i64 x.pl) ∧ w'.cell? ⟨b1, o1 + k * 3 + 2, none⟩ = some (.int .i64 x.lo) ∧ w'.cell? ⟨b2, o2 + k * 3, none⟩ = some (.int .i64 x.mi) ∧ w'.cell? ⟨b2, o2 + k * 3 + 1, none⟩ = some (.int .i64 x.pl) ∧ w'.cell? ⟨b2, o2 + k * 3 + 2, none⟩ = some (.int .i64 x.lo)) :=
        fun w' h => ⟨h.cell g0, h.cell g1, h.cell g2, h.cell k0, h.cell k1, h.cell k2⟩
      clear g0 g1 g2 k0 k1 k2
      refine wp_region_shut Ext (fun w' => Ext wr w') (fun _ => none) (by kernel_rfl) (by kernel_rfl) (fun _ _ h k => h.trans k) (fun i R h => by cases h) (Ext.drew (Ext.refl wr)) ?_
      refine wM_val ?ua0 rfl rfl Ext.refl (fun w' hD => ?ha0) (fun pha0 => ?na0)
      case ha0 =>
        obtain ⟨d0, d1, d2, d3, d4, d5⟩ := FX.out _ hD.1
        go_simp; rfl
      simp only [Act.put, List.setIfInBounds_toArray, List.set_cons_succ, List.set_cons_zero, Nat.reduceAdd]
      refine wM_val ?ua1 rfl rfl Ext.refl (fun w' hD => ?ha1) (fun pha1 => ?na1)
      case ha1 =>
        obtain ⟨d0, d1, d2, d3, d4, d5⟩ := FX.out _ hD.1
        go_simp; rfl
      simp only [Act.put, List.setIfInBounds_toArray, List.set_cons_succ, List.set_cons_zero, Nat.reduceAdd]
      refine wM_val ?ua2 rfl rfl Ext.refl (fun w' hD => ?ha2) (fun pha2 => ?na2)
      case ha2 =>
        obtain ⟨d0, d1, d2, d3, d4, d5⟩ := FX.out _ hD.1
        go_simp; rfl
      simp only [Act.put, List.setIfInBounds_toArray, List.set_cons_succ, List.set_cons_zero, Nat.reduceAdd]
      refine wM_val ?ua3 rfl rfl Ext.refl (fun w' hD => ?ha3) (fun pha3 => ?na3)
      case ha3 =>
        obtain ⟨d0, d1, d2, d3, d4, d5⟩ := FX.out _ hD.1
        go_simp; rfl
      simp only [Act.put, List.setIfInBounds_toArray, List.set_cons_succ, List.set_cons_zero, Nat.reduceAdd]
      refine wM_val ?ua4 rfl rfl Ext.refl (fun w' hD => ?ha4) (fun pha4 => ?na4)
      case ha4 =>
        obtain ⟨d0, d1, d2, d3, d4, d5⟩ := FX.out _ hD.1
        go_simp; rfl
      simp only [Act.put, List.setIfInBounds_toArray, List.set_cons_succ, List.set_cons_zero, Nat.reduceAdd]
      refine wM_val ?ua5 rfl rfl Ext.refl (fun w' hD => ?ha5) (fun pha5 => ?na5)
      case ha5 =>
        obtain ⟨d0, d1, d2, d3, d4, d5⟩ := FX.out _ hD.1
        go_simp; rfl
      simp only [Act.put, List.setIfInBounds_toArray, List.set_cons_succ, List.set_cons_zero, Nat.reduceAdd]
      refine wM_val ?ua6 rfl rfl Ext.refl (fun w' hD => ?ha6) (fun pha6 => ?na6)
      case ha6 =>
        obtain ⟨d0, d1, d2, d3, d4, d5⟩ := FX.out _ hD.1
        go_simp; rfl
      simp only [Act.put, List.setIfInBounds_toArray, List.set_cons_succ, List.set_cons_zero, Nat.reduceAdd]
      refine wM_val ?ua7 rfl rfl Ext.refl (fun w' hD => ?ha7) (fun pha7 => ?na7)
      case ha7 =>
        obtain ⟨d0, d1, d2, d3, d4, d5⟩ := FX.out _ hD.1
        go_simp; rfl
      simp only [Act.put, List.setIfInBounds_toArray, List.set_cons_succ, List.set_cons_zero, Nat.reduceAdd]
      refine wM_val (.bool false) rfl rfl Ext.refl (fun w' hD => ?ha8) (fun pha8 => ?na8)
      case ha8 =>
        have e := run_ne_bl w' x.mi x.pl x.lo
        go_simp
      simp only [Act.put, List.setIfInBounds_toArray, List.set_cons_succ, List.set_cons_zero, Nat.reduceAdd]
      refine wM_nil ?_
      intro w9 hw9 hF9
      go_wp2
      go_roundw
      case rel => exact ⟨k + 1, by omega, by go_num, hx.trans hw9⟩
      case measure => simp [intOf]; omega
    · have hlt' : ¬ (k : Int) < (l.length : Int) := by omega
      go_wp2
      go_ret
      exact ⟨rfl, hx⟩

theorem eq_bls (A A' : Option Addr) (c c' : Nat) (l : List Bl) (w : World) (hA : Blasts w A l) (hB : Blasts w A' l) (hl : l.length ≤ 9223372036854775807) :
    Calls Tryz.prog 185 #[.slice A l.length c, .slice A' l.length c'] w fun e w' => e = .returned (.bool true) ∧ Ext w w' := by
  go_enter Tryz.func185, Tryz.ntmps185
  go_wp2_with fail
  refine (equal_bls A A' c c' l w hA hB hl).mono ?_
  rintro e w1 ⟨rfl, hb⟩
  go_wp2
  go_ret
  exact ⟨rfl, hb⟩

set_option maxRecDepth 100000 in
set_option maxHeartbeats 1000000 in
theorem equal_rps (A A' : Option Addr) (c c' : Nat) (l : List Rp) (w : World) (hA : Reps w A l) (hB : Reps w A' l) (hl : l.length ≤ 9223372036854775807) :
    Calls Tryz.prog 234 #[.slice A l.length c, .slice A' l.length c'] w fun e w' => e = .returned (.bool true) ∧ Ext w w' := by
  go_enter Tryz.func234, Tryz.ntmps234
  go_wp2
  go_loopw [5, 13] (fun _ i wr => ∃ k : Nat, k ≤ l.length ∧ i = .int .i64 (k : Int) ∧ Ext w wr) (fun _ i _ => l.length - (intOf i).toNat)
  case atStart => exact ⟨0, Nat.zero_le _, rfl, Ext.refl _⟩
  case round =>
    obtain ⟨k, hk, rfl, hx⟩ := hrel
    by_cases hlt : k < l.length
    · have hlt' : (k : Int) < (l.length : Int) := by omega
      obtain ⟨x, hx1⟩ := get_of_lt l k hlt
      obtain ⟨b1, o1, rfl, g0, g1⟩ := Reps.at_ (Rows.ext hA hx) hx1
      obtain ⟨b2, o2, rfl, k0, k1⟩ := Reps.at_ (Rows.ext hB hx) hx1
      clear hx1
      go_wp2
      have FX : Hid (∀ w', Ext wr w' → w'.cell? ⟨b1, o1 + k * 2, none⟩ = some (.int .i64 x.bl) ∧ w'.cell? ⟨b1, o1 + k * 2 + 1, none⟩ = some (.bool x.hd) ∧ w'.cell? ⟨b2, o2 + k * 2, none⟩ = some (.int .i64 x.bl) ∧ w'.cell? ⟨b2, o2 + k * 2 + 1, none⟩ = some (.bool x.hd)) :=
        fun w' h => ⟨h.cell g0, h.cell g1, h.cell k0, h.cell k1⟩
      clear g0 g1 k0 k1
      refine wp_region_shut Ext (fun w' => Ext wr w') (fun _ => none) (by kernel_rfl) (by kernel_rfl) (fun _ _ h k => h.trans k) (fun i R h => by cases h) (Ext.drew (Ext.refl wr)) ?_
      refine wM_val ?ua0 rfl rfl Ext.refl (fun w' hD => ?ha0) (fun pha0 => ?na0)
      case ha0 =>
        obtain ⟨d0, d1, d2, d3⟩ := FX.out _ hD.1
        go_simp; rfl
      simp only [Act.put, List.setIfInBounds_toArray, List.set_cons_succ, List.set_cons_zero, Nat.reduceAdd]
      refine wM_val ?ua1 rfl rfl Ext.refl (fun w' hD => ?ha1) (fun pha1 => ?na1)
      case ha1 =>
        obtain ⟨d0, d1, d2, d3⟩ := FX.out _ hD.1
        go_simp; rfl
      simp only [Act.put, List.setIfInBounds_toArray, List.set_cons_succ, List.set_cons_zero, Nat.reduceAdd]
      refine wM_val ?ua2 rfl rfl Ext.refl (fun w' hD => ?ha2) (fun pha2 => ?na2)
      case ha2 =>
        obtain ⟨d0, d1, d2, d3⟩ := FX.out _ hD.1
        go_simp; rfl
      simp only [Act.put, List.setIfInBounds_toArray, List.set_cons_succ, List.set_cons_zero, Nat.reduceAdd]
      refine wM_val ?ua3 rfl rfl Ext.refl (fun w' hD => ?ha3) (fun pha3 => ?na3)
      case ha3 =>
        obtain ⟨d0, d1, d2, d3⟩ := FX.out _ hD.1
        go_simp; rfl
      simp only [Act.put, List.setIfInBounds_toArray, List.set_cons_succ, List.set_cons_zero, Nat.reduceAdd]
      refine wM_val ?ua4 rfl rfl Ext.refl (fun w' hD => ?ha4) (fun pha4 => ?na4)
      case ha4 =>
        obtain ⟨d0, d1, d2, d3⟩ := FX.out _ hD.1
        go_simp; rfl
      simp only [Act.put, List.setIfInBounds_toArray, List.set_cons_succ, List.set_cons_zero, Nat.reduceAdd]
      refine wM_val ?ua5 rfl rfl Ext.refl (fun w' hD => ?ha5) (fun pha5 => ?na5)
      case ha5 =>
        obtain ⟨d0, d1, d2, d3⟩ := FX.out _ hD.1
        go_simp; rfl
      simp only [Act.put, List.setIfInBounds_toArray, List.set_cons_succ, List.set_cons_zero, Nat.reduceAdd]
      refine wM_val ?ua6 rfl rfl Ext.refl (fun w' hD => ?ha6) (fun pha6 => ?na6)
      case ha6 =>
        obtain ⟨d0, d1, d2, d3⟩ := FX.out _ hD.1
        go_simp; rfl
      simp only [Act.put, List.setIfInBounds_toArray, List.set_cons_succ, List.set_cons_zero, Nat.reduceAdd]
      refine wM_val ?ua7 rfl rfl Ext.refl (fun w' hD => ?ha7) (fun pha7 => ?na7)
      case ha7 =>
        obtain ⟨d0, d1, d2, d3⟩ := FX.out _ hD.1
        go_simp; rfl
      simp only [Act.put, List.setIfInBounds_toArray, List.set_cons_succ, List.set_cons_zero, Nat.reduceAdd]
      refine wM_val (.bool false) rfl rfl Ext.refl (fun w' hD => ?ha8) (fun pha8 => ?na8)
      case ha8 =>
        have e := run_ne_rp w' x.bl x.hd
        go_simp
      simp only [Act.put, List.setIfInBounds_toArray, List.set_cons_succ, List.set_cons_zero, Nat.reduceAdd]
      refine wM_nil ?_
      intro w9 hw9 hF9
      go_wp2
      go_roundw
      case rel => exact ⟨k + 1, by omega, by go_num, hx.trans hw9⟩
      case measure => simp [intOf]; omega
    · have hlt' : ¬ (k : Int) < (l.length : Int) := by omega
      go_wp2
      go_ret
      exact ⟨rfl, hx⟩

theorem eq_rps (A A' : Option Addr) (c c' : Nat) (l : List Rp) (w : World) (hA : Reps w A l) (hB : Reps w A' l) (hl : l.length ≤ 9223372036854775807) :
    Calls Tryz.prog 186 #[.slice A l.length c, .slice A' l.length c'] w fun e w' => e = .returned (.bool true) ∧ Ext w w' := by
  go_enter Tryz.func186, Tryz.ntmps186
  go_wp2_with fail
  refine (equal_rps A A' c c' l w hA hB hl).mono ?_
  rintro e w1 ⟨rfl, hb⟩
  go_wp2
  go_ret
  exact ⟨rfl, hb⟩
end Go.Proofs.YtlonpgbapiemcaaGreat

namespace Go.Proofs.YtlonpgbapiemcaaGreat
open Go Go.RowKit Go.Shelf
set_option linter.unusedVariables false
set_option linter.unusedSimpArgs false

theorem rd_block {w : World} {B : Nat} {xs : List Value} {T : TypeId} {fr : Nat × Nat} (h : w.heap[B]? = some (.cells xs.toArray T fr)) : Rd w (some ⟨B, 0, none⟩) xs := by
  refine .inr ⟨B, 0, rfl, fun j u hu => ?_⟩
  rw [Nat.zero_add, cell_of_row w B j _ _ _ h]
  simpa using hu
theorem rd_new (w : World) (xs : List Value) (T : TypeId) (n : Nat) (h : w.heap.size = n) : Rd (w.alloc (.cells xs.toArray T)) (some ⟨n, 0, none⟩) xs := by
  subst h; exact rd_block (heap_alloc_new w _)

set_option maxRecDepth 100000 in
set_option maxHeartbeats 1000000 in
theorem row_any (A : Option Addr) (k : Nat) (l : List Rp) (w : World) (hA : Reps w A l) (hk : l.length ≤ k) :
    Calls Tryz.prog 31 #[.slice A l.length k] w fun e w' => ∃ v, e = .returned v ∧ FgR w' v (rowF l) ∧ Ext w w' := by
  go_enter Tryz.func31, Tryz.ntmps31
  go_wp2
  obtain ⟨W1, hW1⟩ : ∃ W1, w.alloc (.cells #[.int .i64 4, .int .i64 2, .slice (some ⟨w.heap.size + 1, 0, none⟩) 3 3, .slice (some ⟨w.heap.size + 1 + 1, 0, none⟩) 2 2, .slice (some ⟨w.heap.size + 1 + 1 + 1 + 1, 0, none⟩) 1 1] 29) = W1 := ⟨_, rfl⟩
  have x1 : Ext w W1 := by rw [← hW1]; exact Ext.alloc (Ext.refl w) _
  have s1 : W1.heap.size = w.heap.size + 1 := by rw [← hW1]; simp
  have q : ∀ (i : Nat) (u : Value), [(.int .i64 4 : Value), .int .i64 2, .slice (some ⟨w.heap.size + 1, 0, none⟩) 3 3, .slice (some ⟨w.heap.size + 1 + 1, 0, none⟩) 2 2, .slice (some ⟨w.heap.size + 1 + 1 + 1 + 1, 0, none⟩) 1 1][i]? = some u → W1.cell? ⟨w.heap.size, i, none⟩ = some u := by
    intro i u hu
    rw [← hW1]
    rw [cell_of_row _ w.heap.size i _ _ _ (heap_alloc_new w _)]
    simpa using hu
  rw [hW1]
  obtain ⟨W2, hW2⟩ : ∃ W2, W1.alloc (.cells #[.int .i64 0, .int .i64 1, .int .i64 2, .int .i64 1, .int .i64 2, .int .i64 3] 78) = W2 := ⟨_, rfl⟩
  have x2 : Ext W1 W2 := by rw [← hW2]; exact Ext.alloc (Ext.refl _) _
  have s2 : W2.heap.size = w.heap.size + 1 + 1 := by rw [← hW2]; simp [s1]
  have r2 : Prs W2 (some ⟨w.heap.size + 1, 0, none⟩) (rowF l).tr := by rw [← hW2]; exact rd_new W1 (layPr.rows [(0, 1), (2, 1), (2, 3)]) _ _ s1
  rw [hW2]
  obtain ⟨W3, hW3⟩ : ∃ W3, W2.alloc (.cells #[.int .i64 1, .int .i64 0, .int .i64 1, .int .i64 2, .int .i64 3, .int .i64 0] 39) = W3 := ⟨_, rfl⟩
  have x3 : Ext W2 W3 := by rw [← hW3]; exact Ext.alloc (Ext.refl _) _
  have s3 : W3.heap.size = w.heap.size + 1 + 1 + 1 := by rw [← hW3]; simp [s2]
  have r3 : Blasts W3 (some ⟨w.heap.size + 1 + 1, 0, none⟩) (rowF l).bl := by rw [← hW3]; exact rd_new W2 (layBl.rows [⟨1, 0, 1⟩, ⟨2, 3, 0⟩]) _ _ s2
  rw [hW3]
  obtain ⟨W4, hW4⟩ : ∃ W4, W3.alloc (.cells #[.int .i64 1] 3) = W4 := ⟨_, rfl⟩
  have x4 : Ext W3 W4 := by rw [← hW4]; exact Ext.alloc (Ext.refl _) _
  have s4 : W4.heap.size = w.heap.size + 1 + 1 + 1 + 1 := by rw [← hW4]; simp [s3]
  have r4 : Ints W4 (some ⟨w.heap.size + 1 + 1 + 1, 0, none⟩) [1] := by rw [← hW4]; exact rd_new W3 [.int .i64 1] _ _ s3
  rw [hW4]
  obtain ⟨W5, hW5⟩ : ∃ W5, W4.alloc (.cells #[.slice (some ⟨w.heap.size + 1 + 1 + 1, 0, none⟩) 1 1, .slice A l.length k] 63) = W5 := ⟨_, rfl⟩
  have x5 : Ext W4 W5 := by rw [← hW5]; exact Ext.alloc (Ext.refl _) _
  have r5 : Rd W5 (some ⟨w.heap.size + 1 + 1 + 1 + 1, 0, none⟩) [.slice (some ⟨w.heap.size + 1 + 1 + 1, 0, none⟩) 1 1, .slice A l.length k] := by rw [← hW5]; exact rd_new W4 [.slice (some ⟨w.heap.size + 1 + 1 + 1, 0, none⟩) 1 1, .slice A l.length k] _ _ s4
  rw [hW5]
  have x25 : Ext W1 W5 := ((x2.trans x3).trans x4).trans x5
  have k0 := x25.cell (q 0 _ rfl)
  have k1 := x25.cell (q 1 _ rfl)
  have k2 := x25.cell (q 2 _ rfl)
  have k3 := x25.cell (q 3 _ rfl)
  have k4 := x25.cell (q 4 _ rfl)
  refine bodyPost_ret (v := fval (rowF l) (some ⟨w.heap.size + 1, 0, none⟩) 3 (some ⟨w.heap.size + 1 + 1, 0, none⟩) 2 (some ⟨w.heap.size + 1 + 1 + 1 + 1, 0, none⟩) 1) ?_ rfl ⟨_, rfl, ⟨_, _, _, _, _, _, rfl, Rows.ext r2 ((x3.trans x4).trans x5), Rows.ext r3 (x4.trans x5), ⟨_, r5, ⟨_, _, rfl, r4.ext x5, Nat.le_refl _⟩, ⟨A, k, rfl, Rows.ext hA (x1.trans x25), hk⟩, trivial⟩, Nat.le_refl _, Nat.le_refl _, Nat.le_refl _⟩, x1.trans x25⟩
  simp [results, Tryz.results31, go_sem, fval, rowF, k0, k1, k2, k3, k4]
theorem reps_new (w : World) (xs : List Value) (T : TypeId) (l : List Rp) (h : xs = layRp.rows l) : Reps (w.alloc (.cells xs.toArray T)) (some ⟨w.heap.size, 0, none⟩) l := by
  subst h; exact rd_new w _ _ _ rfl

set_option maxRecDepth 100000 in
set_option maxHeartbeats 8000000 in
theorem awake_any (w : World) : Calls Tryz.prog 30 #[] w fun e w' => e = .returned (.bool true) ∧ Ext w w' := by
  have z0 := hid (row_sized [] (by decide))
  have z1 := hid (row_sized r1 (by decide))
  have z2 := hid (row_sized r2 (by decide))
  have z3 := hid (row_sized r3 (by decide))
  go_enter Tryz.func30, Tryz.ntmps30
  go_wp2_with fail
  obtain ⟨W0, hW0⟩ : ∃ W0, (w.alloc (.cells #[.int .i64 0, .bool true] 82)) = W0 := ⟨_, rfl⟩
  have y0 : Ext w W0 := by rw [← hW0]; exact Ext.alloc (Ext.refl w) _
  have c0 : W0.cell? ⟨w.heap.size, 0, none⟩ = some (.int .i64 0) := by rw [← hW0]; simp [go_sem]
  have c1 : W0.cell? ⟨w.heap.size, 1, none⟩ = some (.bool true) := by rw [← hW0]; simp [go_sem]
  rw [hW0]
  clear hW0
  refine (row_any none 0 [] W0 (Rows.nil _ _ _) (Nat.le_refl _)).mono ?_
  rintro e wa1 ⟨v1, rfl, h1, xa1⟩
  have xr1 : Ext W0 wa1 := xa1
  go_wp2_with fail
  refine (countx_any v1 (rowF []) 0 wa1 h1 z0.out).mono ?_
  rw [row_count0, row_c0]
  rintro e W1 ⟨rfl, xb1⟩
  have xs1 := xr1.trans xb1
  have y1 := y0.trans xs1
  have c0 := xs1.cell c0
  have c1 := xs1.cell c1
  clear xr1 xb1 xa1 h1 y0
  go_wp2_with fail
  have xc2 := Ext.alloc (Ext.refl W1) (.cells #[.int .i64 0, .bool true] 82)
  refine (row_any (some ⟨W1.heap.size, 0, none⟩) 1 r1 _ (reps_new W1 [.int .i64 0, .bool true] _ _ rfl) (by decide)).mono ?_
  rintro e wa2 ⟨v2, rfl, h2, xa2⟩
  have xr2 : Ext W1 wa2 := xc2.trans xa2
  go_wp2_with fail
  refine (countx_any v2 (rowF r1) 0 wa2 h2 z1.out).mono ?_
  rw [row_count1, row_c1]
  rintro e W2 ⟨rfl, xb2⟩
  have xs2 := xr2.trans xb2
  have y2 := y1.trans xs2
  have c0 := xs2.cell c0
  have c1 := xs2.cell c1
  clear xr2 xb2 xa2 h2 y1
  go_wp2_with fail
  have xc3 := Ext.alloc (Ext.refl W2) (.cells #[.int .i64 0, .bool false] 82)
  refine (row_any (some ⟨W2.heap.size, 0, none⟩) 1 r3 _ (reps_new W2 [.int .i64 0, .bool false] _ _ rfl) (by decide)).mono ?_
  rintro e wa3 ⟨v3, rfl, h3, xa3⟩
  have xr3 : Ext W2 wa3 := xc3.trans xa3
  go_wp2_with fail
  refine (at_any v3 (rowF r3) 0 2 wa3 h3 z3.out).mono ?_
  rintro e W3 ⟨q3, rfl, xb3, A3, k3, rfl, i3, -⟩
  rw [row_at.2] at i3 ⊢
  rw [row_at.1]
  have xs3 := xr3.trans xb3
  have y3 := y2.trans xs3
  have c0 := xs3.cell c0
  have c1 := xs3.cell c1
  clear xr3 xb3 xa3 h3 y2
  go_wp2_with fail
  have xc4 := Ext.alloc (Ext.refl W3) (.cells #[.int .i64 0, .bool true] 82)
  refine (row_any (some ⟨W3.heap.size, 0, none⟩) 1 r1 _ (reps_new W3 [.int .i64 0, .bool true] _ _ rfl) (by decide)).mono ?_
  rintro e wa4 ⟨v4, rfl, h4, xa4⟩
  have xr4 : Ext W3 wa4 := xc4.trans xa4
  go_wp2_with fail
  refine (heardx_any v4 (rowF r1) 0 1 wa4 h4 z1.out).mono ?_
  rw [row_heard.1, row_heard.2.1, row_heard.2.2]
  rintro e W4 ⟨rfl, xb4⟩
  have xs4 := xr4.trans xb4
  have y4 := y3.trans xs4
  have c0 := xs4.cell c0
  have c1 := xs4.cell c1
  have i4 := i3.ext xs4
  clear i3
  clear xr4 xb4 xa4 h4 y3
  go_wp2_with fail
  have xd5 := Ext.alloc (Ext.refl W4) (.cells #[.int .i64 1, .int .i64 2, .int .i64 3] 3)
  refine (eq_int A3 (some ⟨W4.heap.size, 0, none⟩) k3 3 [1, 2, 3] [1, 2, 3] _ (i4.ext xd5) (rd_new W4 [.int .i64 1, .int .i64 2, .int .i64 3] _ _ rfl) (by decide) (by decide)).mono ?_
  rintro e W5 ⟨rfl, xe5⟩
  have xs5 := xd5.trans xe5
  have y5 := y4.trans xs5
  have c0 := xs5.cell c0
  have c1 := xs5.cell c1
  clear xd5 xe5 i4 y4
  go_wp2_with fail
  have xc6 := Ext.alloc (Ext.refl W5) (.cells #[.int .i64 0, .bool true, .int .i64 1, .bool true] 82)
  refine (row_any (some ⟨W5.heap.size, 0, none⟩) 2 r2 _ (reps_new W5 [.int .i64 0, .bool true, .int .i64 1, .bool true] _ _ rfl) (by decide)).mono ?_
  rintro e wa6 ⟨v6, rfl, h6, xa6⟩
  have xr6 : Ext W5 wa6 := xc6.trans xa6
  go_wp2_with fail
  refine (clashx_any v6 (rowF r2) 0 wa6 h6 z2.out).mono ?_
  rintro e W6 ⟨q6, rfl, xb6, A6, k6, rfl, i6, -⟩
  rw [row_clash.2] at i6 ⊢
  rw [row_clash.1]
  have xs6 := xr6.trans xb6
  have y6 := y5.trans xs6
  have c0 := xs6.cell c0
  have c1 := xs6.cell c1
  clear xr6 xb6 xa6 h6 y5
  go_wp2_with fail
  have xc7 := Ext.alloc (Ext.refl W6) (.cells #[.int .i64 0, .bool true] 82)
  refine (row_any (some ⟨W6.heap.size, 0, none⟩) 1 r1 _ (reps_new W6 [.int .i64 0, .bool true] _ _ rfl) (by decide)).mono ?_
  rintro e wa7 ⟨v7, rfl, h7, xa7⟩
  have xr7 : Ext W6 wa7 := xc7.trans xa7
  go_wp2_with fail
  refine (decidex_any v7 (rowF r1) 0 2 0 wa7 h7 z1.out).mono ?_
  rintro e W7 ⟨q7, rfl, xb7, A7, k7, rfl, i7⟩
  rw [row_dec0.2] at i7 ⊢
  rw [row_dec0.1]
  have xs7 := xr7.trans xb7
  have y7 := y6.trans xs7
  have c0 := xs7.cell c0
  have c1 := xs7.cell c1
  have i67 := i6.ext xs7
  clear i6
  clear xr7 xb7 xa7 h7 y6
  go_wp2_with fail
  have xc8 := Ext.alloc (Ext.refl W7) (.cells #[.int .i64 0, .bool true] 82)
  refine (row_any (some ⟨W7.heap.size, 0, none⟩) 1 r1 _ (reps_new W7 [.int .i64 0, .bool true] _ _ rfl) (by decide)).mono ?_
  rintro e wa8 ⟨v8, rfl, h8, xa8⟩
  have xr8 : Ext W7 wa8 := xc8.trans xa8
  go_wp2_with fail
  refine (decidex_any v8 (rowF r1) 0 2 1 wa8 h8 z1.out).mono ?_
  rintro e W8 ⟨q8, rfl, xb8, A8, k8, rfl, i8⟩
  rw [row_dec1.2] at i8 ⊢
  rw [row_dec1.1]
  have xs8 := xr8.trans xb8
  have y8 := y7.trans xs8
  have c0 := xs8.cell c0
  have c1 := xs8.cell c1
  have i68 := i67.ext xs8
  have i78 := i7.ext xs8
  clear i67 i7
  clear xr8 xb8 xa8 h8 y7
  go_wp2_with fail
  have xc9 := Ext.alloc (Ext.refl W8) (.cells #[.int .i64 0, .bool true] 82)
  refine (row_any (some ⟨W8.heap.size, 0, none⟩) 1 r1 _ (reps_new W8 [.int .i64 0, .bool true] _ _ rfl) (by decide)).mono ?_
  rintro e wa9 ⟨v9, rfl, h9, xa9⟩
  have xr9 : Ext W8 wa9 := xc9.trans xa9
  go_wp2_with fail
  refine (twins_any v9 (rowF r1) 0 2 3 wa9 h9 z1.out).mono ?_
  rintro e W9 ⟨q9, rfl, xb9, A9, k9, rfl, i9⟩
  rw [row_twins.2] at i9 ⊢
  rw [row_twins.1]
  have xs9 := xr9.trans xb9
  have y9 := y8.trans xs9
  have c0 := xs9.cell c0
  have c1 := xs9.cell c1
  have i69 := i68.ext xs9
  have i79 := i78.ext xs9
  have i89 := i8.ext xs9
  clear i68 i78 i8
  clear xr9 xb9 xa9 h9 y8
  go_wp2_with fail
  have xd10 := Ext.alloc (Ext.refl W9) (.cells #[.int .i64 0, .int .i64 1] 3)
  refine (eq_int A6 (some ⟨W9.heap.size, 0, none⟩) k6 2 [0, 1] [0, 1] _ (i69.ext xd10) (rd_new W9 [.int .i64 0, .int .i64 1] _ _ rfl) (by decide) (by decide)).mono ?_
  rintro e W10 ⟨rfl, xe10⟩
  have xs10 := xd10.trans xe10
  have y10 := y9.trans xs10
  have i7a := i79.ext xs10
  have i8a := i89.ext xs10
  have i9a := Rows.ext i9 xs10
  clear i69 i79 i89 i9
  clear xd10 xe10 y9
  go_wp2_with fail
  have xd11 := Ext.alloc (Ext.refl W10) (.cells #[.int .i64 0, .int .i64 1] 3)
  refine (eq_int A7 (some ⟨W10.heap.size, 0, none⟩) k7 2 [0, 1] [0, 1] _ (i7a.ext xd11) (rd_new W10 [.int .i64 0, .int .i64 1] _ _ rfl) (by decide) (by decide)).mono ?_
  rintro e W11 ⟨rfl, xe11⟩
  have xs11 := xd11.trans xe11
  have y11 := y10.trans xs11
  have i8b := i8a.ext xs11
  have i9b := Rows.ext i9a xs11
  clear i7a i8a i9a
  clear xd11 xe11 y10
  go_wp2_with fail
  have xd12 := Ext.alloc (Ext.refl W11) (.cells #[.int .i64 0, .int .i64 2] 3)
  refine (eq_int A8 (some ⟨W11.heap.size, 0, none⟩) k8 2 [0, 2] [0, 2] _ (i8b.ext xd12) (rd_new W11 [.int .i64 0, .int .i64 2] _ _ rfl) (by decide) (by decide)).mono ?_
  rintro e W12 ⟨rfl, xe12⟩
  have xs12 := xd12.trans xe12
  have y12 := y11.trans xs12
  have i9c := Rows.ext i9b xs12
  clear i8b i9b
  clear xd12 xe12 y11
  go_wp2_with fail
  have xd13 := Ext.alloc (Ext.refl W12) (.cells #[.int .i64 0, .int .i64 1, .int .i64 0, .int .i64 2, .int .i64 1, .int .i64 2] 78)
  refine (eq_prs A9 (some ⟨W12.heap.size, 0, none⟩) k9 3 [(0, 1), (0, 2), (1, 2)] _ (Rows.ext i9c xd13) (rd_new W12 (layPr.rows [(0, 1), (0, 2), (1, 2)]) _ _ rfl) (by decide)).mono ?_
  rintro e W13 ⟨rfl, xe13⟩
  have y13 := y12.trans (xd13.trans xe13)
  clear xd13 xe13 y12 i9c
  go_wp2
  go_ret
  exact ⟨rfl, y13⟩
end Go.Proofs.YtlonpgbapiemcaaGreat

namespace Go.Proofs.YtlonpgbapiemcaaGreat
open Go Go.RowKit
set_option linter.unusedVariables false
set_option linter.unusedSimpArgs false

def farE (f : Fg) (a b : Int) : Int := if checkF f ≠ 0 then checkF f else if plOK f a && plOK f b then (if farM f a.toNat b.toNat = 100 then 6 else 0) else 1
def farV (f : Fg) (a b : Int) : Int := if farE f a b = 0 then farM f a.toNat b.toNat else 0
set_option maxRecDepth 100000 in
set_option maxHeartbeats 4000000 in
theorem farx_any (v : Value) (f : Fg) (a b : Int) (w : World) (hf : FgR w v f) (hs : f.sized) :
    Calls Tryz.prog 9 #[v, .int .i64 a, .int .i64 b] w fun e w' => e = .returned (.tuple #[.int .i64 (farV f a b), .int .i64 (farE f a b)]) ∧ Ext w w' := by
  obtain ⟨s, rfl, hr⟩ := hf.rows
  obtain ⟨T, hT⟩ : ∃ T, checkF f = T := ⟨_, rfl⟩
  have HT := hid hT
  clear hT
  have HS := hid hs
  have HX0 : Hid (Ext w (w.alloc (.cells #[.int .i64 f.pl, .int .i64 f.mi, .slice s.a1 f.tr.length s.c1, .slice s.a2 f.bl.length s.c2, .slice s.a3 f.ct.length s.c3] 29))) := Ext.alloc (Ext.refl w) _
  show Calls _ _ #[.agg #[.int .i64 f.pl, .int .i64 f.mi, .slice s.a1 f.tr.length s.c1, .slice s.a2 f.bl.length s.c2, .slice s.a3 f.ct.length s.c3], .int .i64 a, .int .i64 b] _ _
  go_enter Tryz.func9, Tryz.ntmps9
  go_wp2_with fail
  refine (opened_any (.agg #[.int .i64 f.pl, .int .i64 f.mi, .slice s.a1 f.tr.length s.c1, .slice s.a2 f.bl.length s.c2, .slice s.a3 f.ct.length s.c3]) f _ (FRows.fg (hr.ext HX0.out)) HS.out).mono ?_
  rintro e w1 ⟨r, rfl, hb1, hr1, hr2⟩
  have hx1 := HX0.out.trans hb1
  have kc0 := hb1.cell (p := ⟨w.heap.size, 0, none⟩) (u := .int .i64 f.pl) (by simp [go_sem])
  have kc1 := hb1.cell (p := ⟨w.heap.size, 1, none⟩) (u := .int .i64 f.mi) (by simp [go_sem])
  have kc2 := hb1.cell (p := ⟨w.heap.size, 2, none⟩) (u := .slice s.a1 f.tr.length s.c1) (by simp [go_sem])
  have kc3 := hb1.cell (p := ⟨w.heap.size, 3, none⟩) (u := .slice s.a2 f.bl.length s.c2) (by simp [go_sem])
  have kc4 := hb1.cell (p := ⟨w.heap.size, 4, none⟩) (u := .slice s.a3 f.ct.length s.c3) (by simp [go_sem])
  clear HX0 hb1
  rw [HT.out]
  by_cases h0 : T = 0
  case neg =>
    have HE0 : Hid (checkF f ≠ 0) := by unfold Hid; rw [HT.out]; exact h0
    have hr3 := hr2 HE0.out
    subst hr3
    clear hr1 hr2
    have HN : Hid (farE f a b = T) := by unfold Hid farE; rw [if_pos HE0.out, HT.out]
    have HV : Hid (farV f a b = 0) := by unfold Hid farV; rw [HN.out, if_neg h0]
    go_wp2
    go_ret2
    exact ⟨by rw [HN.out, HV.out]; rfl, hx1⟩
  subst h0
  obtain ⟨D, s2, hrD, hdk, hrk⟩ := hr1 HT.out
  subst hrD
  clear hr1 hr2
  have HOK : Hid (FogOK f) := checkF_ok HT.out
  have HDK := hid hdk
  have hpl := HOK.out.pl
  go_wp2_with fail
  refine (place_any (.agg #[.int .i64 f.pl, .int .i64 f.mi, .slice s.a1 f.tr.length s.c1, .slice s.a2 f.bl.length s.c2, .slice s.a3 f.ct.length s.c3]) f a w1 (FRows.fg (hr.ext hx1)) hpl.1 hpl.2).mono ?_
  rintro e w2 ⟨rfl, hb2⟩
  have hx2 := hx1.trans hb2
  have kc0 := hb2.cell kc0
  have kc1 := hb2.cell kc1
  have kc2 := hb2.cell kc2
  have kc3 := hb2.cell kc3
  have kc4 := hb2.cell kc4
  cases hq : plOK f a
  · have HN : Hid (farE f a b = 1) := by unfold Hid farE; rw [if_neg (fun h => h HT.out)]; simp [hq]
    have HV : Hid (farV f a b = 0) := by unfold Hid farV; rw [HN.out]; rfl
    go_wp2
    go_ret2
    exact ⟨by rw [HN.out, HV.out]; rfl, hx2⟩
  go_wp2_with fail
  refine (place_any (.agg #[.int .i64 f.pl, .int .i64 f.mi, .slice s.a1 f.tr.length s.c1, .slice s.a2 f.bl.length s.c2, .slice s.a3 f.ct.length s.c3]) f b w2 (FRows.fg (hr.ext hx2)) hpl.1 hpl.2).mono ?_
  rintro e w3 ⟨rfl, hb3⟩
  have hx3 := hx2.trans hb3
  clear kc0 kc1 kc2 kc3 kc4
  cases hq2 : plOK f b
  · have HN : Hid (farE f a b = 1) := by unfold Hid farE; rw [if_neg (fun h => h HT.out)]; simp [hq, hq2]
    have HV : Hid (farV f a b = 0) := by unfold Hid farV; rw [HN.out]; rfl
    go_wp2
    go_ret2
    exact ⟨by rw [HN.out, HV.out]; rfl, hx3⟩
  have ha := inB_iff.1 hq
  have hb := inB_iff.1 hq2
  obtain ⟨an, rfl⟩ : ∃ an : Nat, a = an := ⟨a.toNat, by omega⟩
  obtain ⟨bn, rfl⟩ : ∃ bn : Nat, b = bn := ⟨b.toNat, by omega⟩
  have ha8 : (an : Int) < 8 := by omega
  have hb8 : (bn : Int) < 8 := by omega
  have hat := (hdk.ext (hb2.trans hb3)).at_ (a := an) (b := bn) (by omega) (by omega)
  have HNE : Hid (farE f an bn = if farM f an bn = 100 then 6 else 0) := by unfold Hid farE; rw [if_neg (fun h => h HT.out), hq, hq2]; simp
  by_cases hf : farM f an bn = 100
  · have HN : Hid (farE f an bn = 6) := by unfold Hid; rw [HNE.out, if_pos hf]
    have HV : Hid (farV f an bn = 0) := by unfold Hid farV; rw [HN.out]; rfl
    rw [hf] at hat
    clear hf
    go_wp2
    go_ret2
    exact ⟨by rw [HN.out, HV.out]; rfl, hx3⟩
  · have HN : Hid (farE f an bn = 0) := by unfold Hid; rw [HNE.out, if_neg hf]
    have HV : Hid (farV f an bn = farM f an bn) := by unfold Hid farV; rw [HN.out]; simp
    have hfb : (farM f an bn == 100) = false := by simpa using hf
    clear hf
    generalize farM f an bn = F at hat hfb HV HNE ⊢
    clear HNE
    go_wp2
    go_ret2
    exact ⟨by rw [HN.out, HV.out]; rfl, hx3⟩

def hearsE (f : Fg) (b : Int) : Int := if checkF f ≠ 0 then checkF f else if blOK f b then 0 else 1
def hearsL (f : Fg) (b : Int) : List Int := if hearsE f b = 0 then natI ((List.range f.pl.toNat).filter (heardM (farM f) (blAt f b))) else []
def hearM (f : Fg) (b : Bl) (k : Nat) : List Nat := (List.range k).filter (heardM (farM f) b)
theorem hearM_next (f : Fg) (b : Bl) (k : Nat) : hearM f b (k + 1) = hearM f b k ++ (if heardM (farM f) b k then [k] else []) := by
  unfold hearM
  rw [List.range_succ, List.filter_append]
  congr 1
  cases h : heardM (farM f) b k <;> simp [h]
theorem hearM_len (f : Fg) (b : Bl) (k : Nat) : (hearM f b k).length ≤ k := by
  have := List.length_filter_le (heardM (farM f) b) (List.range k)
  simpa [hearM] using this
def natW (l : List Nat) : List Value := (natI l).map (.int .i64)
/-- A row of numbers of the call's own. -/
def OwnIR (w : World) (B : Nat) (r : Value) (l : List Int) : Prop := ∃ A c, r = .slice A l.length c ∧ w.ownsRow B 3 1 (.slice A l.length c) l.length (l.map (.int .i64))
set_option maxRecDepth 100000 in
set_option maxHeartbeats 4000000 in
theorem hearsy_any (v : Value) (f : Fg) (m : Int) (w : World) (hf : FgR w v f) (hs : f.sized) :
    Calls Tryz.prog 10 #[v, .int .i64 m] w fun e w' => ∃ r, e = .returned (.tuple #[r, .int .i64 (hearsE f m)]) ∧ Ext w w' ∧ IntsR w' r (hearsL f m) ∧ OwnIR w' w.heap.size r (hearsL f m) := by
  obtain ⟨s, rfl, hr⟩ := hf.rows
  obtain ⟨T, hT⟩ : ∃ T, checkF f = T := ⟨_, rfl⟩
  have HT := hid hT
  clear hT
  have HS := hid hs
  have HX0 : Hid (Ext w (w.alloc (.cells #[.int .i64 f.pl, .int .i64 f.mi, .slice s.a1 f.tr.length s.c1, .slice s.a2 f.bl.length s.c2, .slice s.a3 f.ct.length s.c3] 29))) := Ext.alloc (Ext.refl w) _
  show Calls _ _ #[.agg #[.int .i64 f.pl, .int .i64 f.mi, .slice s.a1 f.tr.length s.c1, .slice s.a2 f.bl.length s.c2, .slice s.a3 f.ct.length s.c3], .int .i64 m] _ _
  go_enter Tryz.func10, Tryz.ntmps10
  go_wp2_with fail
  refine (opened_any (.agg #[.int .i64 f.pl, .int .i64 f.mi, .slice s.a1 f.tr.length s.c1, .slice s.a2 f.bl.length s.c2, .slice s.a3 f.ct.length s.c3]) f _ (FRows.fg (hr.ext HX0.out)) HS.out).mono ?_
  rintro e w1 ⟨r, rfl, hb1, hr1, hr2⟩
  have hx1 := HX0.out.trans hb1
  have kc0 := hb1.cell (p := ⟨w.heap.size, 0, none⟩) (u := .int .i64 f.pl) (by simp [go_sem])
  have kc1 := hb1.cell (p := ⟨w.heap.size, 1, none⟩) (u := .int .i64 f.mi) (by simp [go_sem])
  have kc2 := hb1.cell (p := ⟨w.heap.size, 2, none⟩) (u := .slice s.a1 f.tr.length s.c1) (by simp [go_sem])
  have kc3 := hb1.cell (p := ⟨w.heap.size, 3, none⟩) (u := .slice s.a2 f.bl.length s.c2) (by simp [go_sem])
  have kc4 := hb1.cell (p := ⟨w.heap.size, 4, none⟩) (u := .slice s.a3 f.ct.length s.c3) (by simp [go_sem])
  clear HX0 hb1
  rw [HT.out]
  by_cases h0 : T = 0
  case neg =>
    have HE0 : Hid (checkF f ≠ 0) := by unfold Hid; rw [HT.out]; exact h0
    have hr3 := hr2 HE0.out
    subst hr3
    clear hr1 hr2
    have HN : Hid (hearsE f m = T) := by unfold Hid hearsE; rw [if_pos HE0.out, HT.out]
    have HV : Hid (hearsL f m = []) := by unfold Hid hearsL; rw [HN.out, if_neg h0]
    go_wp2
    go_ret2
    exact ⟨.slice none 0 0, by rw [HN.out]; rfl, hx1, by rw [HV.out]; exact IntsR.nil _, by rw [HV.out]; exact ⟨none, 0, rfl, own_nil _ _ _ _⟩⟩
  subst h0
  obtain ⟨D, s2, hrD, hdk, hrk⟩ := hr1 HT.out
  subst hrD
  clear hr1 hr2
  have HOK : Hid (FogOK f) := checkF_ok HT.out
  have HDK := hid hdk
  have hpl := HOK.out.pl
  go_wp2_with fail
  refine (blast_any (.agg #[.int .i64 f.pl, .int .i64 f.mi, .slice s.a1 f.tr.length s.c1, .slice s.a2 f.bl.length s.c2, .slice s.a3 f.ct.length s.c3]) f m w1 (FRows.fg (hr.ext hx1)) (by have := HS.out.bl; omega)).mono ?_
  rintro e w2 ⟨rfl, hb2⟩
  have hx2 := hx1.trans hb2
  have kc0 := hb2.cell kc0
  have kc3 := hb2.cell kc3
  clear kc1 kc2 kc4
  cases hq : blOK f m
  · have HN : Hid (hearsE f m = 1) := by unfold Hid hearsE; rw [if_neg (fun h => h HT.out), hq]; rfl
    have HV : Hid (hearsL f m = []) := by unfold Hid hearsL; rw [HN.out]; rfl
    go_wp2
    go_ret2
    exact ⟨.slice none 0 0, by rw [HN.out]; rfl, hx2, by rw [HV.out]; exact IntsR.nil _, by rw [HV.out]; exact ⟨none, 0, rfl, own_nil _ _ _ _⟩⟩
  have HN : Hid (hearsE f m = 0) := by unfold Hid hearsE; rw [if_neg (fun h => h HT.out), hq]; rfl
  have hm := inB_iff.1 hq
  obtain ⟨mn, rfl⟩ : ∃ mn : Nat, m = mn := ⟨m.toNat, by omega⟩
  obtain ⟨x, hxm⟩ := get_of_lt f.bl mn (by omega)
  have hml : (mn : Int) < (f.bl.length : Int) := by omega
  have HBA : Hid (blAt f (mn : Int) = x) := by unfold Hid blAt; rw [Int.toNat_natCast, List.getD_eq_getElem?_getD, hxm]; rfl
  have hxb := HOK.out.bl x (mem_of_get hxm)
  obtain ⟨P, hP⟩ : ∃ P : Nat, f.pl = P := ⟨f.pl.toNat, by omega⟩
  have hP8 : P ≤ 8 := by omega
  have HPE := hid hP
  have HPN : Hid (f.pl.toNat = P) := by unfold Hid; omega
  have HV : Hid (hearsL f (mn : Int) = natI ((List.range P).filter (heardM (farM f) x))) := by unfold Hid hearsL; rw [HN.out, HBA.out, HPN.out]; rfl
  obtain ⟨b1, o1, e1, g0, g1, g2⟩ := Blasts.at_ (Rows.ext hr.bl hx2) hxm
  rw [e1] at kc3
  have HE1 := hid e1
  rw [HE1.out]
  clear e1 hP hm hq
  have FX : Hid (∀ w', Ext w2 w' → w'.cell? ⟨w.heap.size, 3, none⟩ = some (.slice (some ⟨b1, o1, none⟩) f.bl.length s.c2) ∧ w'.cell? ⟨b1, o1 + mn * 3, none⟩ = some (.int .i64 x.mi) ∧ w'.cell? ⟨b1, o1 + mn * 3 + 1, none⟩ = some (.int .i64 x.pl) ∧ w'.cell? ⟨b1, o1 + mn * 3 + 2, none⟩ = some (.int .i64 x.lo)) := fun w' h => ⟨h.cell kc3, h.cell g0, h.cell g1, h.cell g2⟩
  go_wp2
  clear kc0 kc3 g0 g1 g2
  have HDK2 := hid (HDK.out.ext hb2)
  go_loopw [27, 8] (fun i27 i8 wr => ∃ (k : Nat) (A : Option Addr) (c : Nat), k ≤ P ∧ i27 = .int .i64 (k : Int) ∧ i8 = .slice A (hearM f x k).length c ∧ Hid (wr.ownsRow w2.heap.size 3 1 (.slice A (hearM f x k).length c) (hearM f x k).length (natW (hearM f x k))) ∧ Ext w2 wr) (fun i _ _ => P - (intOf i).toNat)
  case atStart => exact ⟨0, none, 0, Nat.zero_le _, rfl, rfl, own_nil _ _ _ _, Ext.refl _⟩
  case round =>
    obtain ⟨k, A, c, hk, rfl, rfl, OA, hx⟩ := hrel
    obtain ⟨q3, g0, g1, g2⟩ := FX.out wr hx
    have hll := hearM_len f x k
    by_cases hlt : k < P
    · have hlt' : (k : Int) < f.pl := by have := HPE.out; omega
      go_wp2_with fail
      clear q3 g0 g1 g2
      refine (heard_any D s2 f (farM f) x k wr (HDK2.out.ext hx) ⟨hxb.2.1.1, by have := hxb.2.1.2; omega⟩ (by omega)).mono ?_
      rintro e w3 ⟨rfl, hb3⟩
      have HNX := hid (hearM_next f x k)
      cases hq : heardM (farM f) x k
      · have HSM : Hid (hearM f x (k + 1) = hearM f x k) := by unfold Hid; rw [HNX.out, hq]; simp
        have OA2 := hid (own_below OA.out hb3)
        clear OA HNX hq
        go_wp2
        go_roundw
        case rel => exact ⟨k + 1, A, c, by omega, by go_num, by rw [HSM.out], by rw [HSM.out]; exact OA2, hx.trans hb3⟩
        case measure => simp [intOf]; omega
      · have HSM : Hid (hearM f x (k + 1) = hearM f x k ++ [k]) := by unfold Hid; rw [HNX.out, hq]; simp
        obtain ⟨W5, hW5⟩ : ∃ W5, w3.alloc (.cells #[.int .i64 (k : Int)] 3) = W5 := ⟨_, rfl⟩
        have hx5 : Ext w3 W5 := by rw [← hW5]; exact Ext.alloc (Ext.refl _) _
        have HRD : Hid (Rd W5 (some ⟨w3.heap.size, 0, none⟩) [.int .i64 (k : Int)]) := .inr ⟨w3.heap.size, 0, rfl, fun j u hu => by
          match j, hu with
          | 0, hu => cases hu; rw [← hW5]; simp [go_sem]
          | j + 1, hu => simp at hu⟩
        have OW5 := hid (own_below OA.out (hb3.trans hx5))
        have hxw5 := hid (hx.trans (hb3.trans hx5))
        have hsz5 := hxw5.out.size
        have HNV : Hid (natW (hearM f x k) ++ [.int .i64 (k : Int)] = natW (hearM f x (k + 1))) := by unfold Hid; rw [HSM.out]; simp [natW, natI]
        have HLE : Hid ((hearM f x (k + 1)).length = (hearM f x k).length + 1) := by unfold Hid; rw [HSM.out]; simp
        have hnb : ((hearM f x k).length + 1) * 8 ≤ 140737488355328 := by omega
        clear OA HNX hq HSM
        go_wp2_with (at_builtin; (try rw [hW5]); refine wpList_append_rd2 _ rfl _ _ 37 rfl elem_int w2.heap.size _ (hearM f x k).length (natW (hearM f x k)) rfl OW5.out (some ⟨w3.heap.size, 0, none⟩) 1 1 [.int .i64 (k : Int)] rfl rfl HRD.out (by intro u hu; simp at hu; subst hu; rfl) hnb hsz5 ?_)
        intro A6 k6 W6 own6 hbel6 hgr6 hloc6
        rw [HNV.out] at own6
        have hxw6 : Ext w2 W6 := Ext.grown hxw5.out hgr6 (fun k e => (OW5.out.lt k e).1)
        have HO6 := hid own6
        clear own6 hloc6 hgr6 hbel6
        go_wp2
        go_roundw
        case rel => exact ⟨k + 1, A6, k6, by omega, by go_num, by rw [HLE.out], by rw [HLE.out]; exact HO6, hxw6⟩
        case measure => simp [intOf]; omega
    · have hlt' : ¬ (k : Int) < f.pl := by have := HPE.out; omega
      have hkP : k = P := by omega
      subst hkP
      go_wp2
      go_ret2
      refine ⟨_, by rw [HN.out]; rfl, hx2.trans hx, ?_⟩
      rw [HV.out]
      have hle : (natI ((List.range k).filter (heardM (farM f) x))).length = (hearM f x k).length := by simp [natI, hearM]
      refine ⟨⟨A, c, ?_, Rd.of_own OA.out, ?_⟩, A, c, by congr 1; simp [natI, hearM], ?_⟩
      · congr 1; simp [natI, hearM]
      · have := own_cap OA.out; simpa [natI, hearM] using this
      · have hs2 := hx2.size
        rw [hle]
        exact own_base OA.out hs2

theorem hearsx_any (v : Value) (f : Fg) (m : Int) (w : World) (hf : FgR w v f) (hs : f.sized) :
    Calls Tryz.prog 10 #[v, .int .i64 m] w fun e w' => ∃ r, e = .returned (.tuple #[r, .int .i64 (hearsE f m)]) ∧ Ext w w' ∧ IntsR w' r (hearsL f m) :=
  (hearsy_any v f m w hf hs).mono fun e w' h => by
    obtain ⟨r, h1, h2, h3, -⟩ := h
    exact ⟨r, h1, h2, h3⟩
end Go.Proofs.YtlonpgbapiemcaaGreat
