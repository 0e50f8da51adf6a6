/- How a warn.Case that comes in reads. -/
import Derived.Test.YtgnjhaomlbkgcaaWLiars
import Derived.Maps.OwnSet
import Derived.Test.YtgnjhaomlbkgcaaRef1
import Derived.Test.YtgnjhaomlbkgcaaRegion3
import Derived.Test.YtgnjhaomlbkgcaaDup
import Derived.Laws.StructEq
import Derived.Test.YtgnjhaomlbkgcaaRef2
import Derived.Test.YtgnjhaomlbkgcaaWShows
import Derived.Test.YtgnjhaomlbkgcaaWRingP
import Derived.Test.YtgnjhaomlbkgcaaRef3
import Derived.Test.YtgnjhaomlbkgcaaOwn
import Derived.Test.YtgnjhaomlbkgcaaApp2
import Derived.Laws.ResultCell
import Derived.Test.YtgnjhaomlbkgcaaRows
import Derived.Test.YtgnjhaomlbkgcaaHeap
import Derived.WalkKit
import Derived.ProofKit
import Derived.OpenShut
import Derived.ShutString
import Derived.ChangeOld
import Derived.Below
import Derived.DeepKeys4
import Derived.Test.YtgnjhaomlbkgcaaWRowP
import Derived.Test.YtgnjhaomlbkgcaaWTruth
import Derived.Test.YtgnjhaomlbkgcaaBelS
import Derived.Maps.OwnIn
import Derived.Test.YtgnjhaomlbkgcaaWFew
import Derived.Test.YtgnjhaomlbkgcaaWMade
import Derived.Test.YtgnjhaomlbkgcaaWWork
import Derived.Test.YtgnjhaomlbkgcaaWOpen
import Derived.Test.YtgnjhaomlbkgcaaWRev
import Derived.Test.YtgnjhaomlbkgcaaWRing
import Derived.BigQuiet
import Derived.Test.YtgnjhaomlbkgcaaWAsk
import Derived.Test.YtgnjhaomlbkgcaaWAsk2
import Derived.Test.YtgnjhaomlbkgcaaWChk
import Derived.Deep.Slices
import Derived.Deep.Fields
import Derived.Lib.SmallJoins
namespace Go.Proofs.Ytgnjhaomlbkgcaa
open Go Go.RowKit Go.Shelf Go.Maps
set_option linter.unusedVariables false
set_option linter.unusedSimpArgs false

theorem plainElem_bool_inv {H : Type} {P : Program} {e : TypeId} (he : P.underlying e = some .bool) {v : Value} {z : DataW H × List MemPlace} (h : plainElem P e v = some z) : ∃ a, v = .bool a ∧ z = (.lit (.bool a), []) := by
  unfold plainElem at h
  rw [he] at h
  cases v <;> simp at h
  subst h
  exact ⟨_, rfl, rfl⟩
theorem wpList_lookup_own_bool {H : Type} {P : Program} (w : World) {ops : Array Oper} {rest : List Oper} {o : Oper} {a : Act} {Q : Exit → Act → World → Prop}
    (hg : o.guard = none) (m x : Operand) (t : TypeId) (hop : o.op = Op.lookup t m x false)
    (k e : TypeId) (K : Keyed P k) (ht : P.underlying t = some (.map k e)) (he : P.underlying e = some .bool) (hz : (zeroValue e).run P w = .ok (.bool false) w) (b n : Nat) (D : DataW H)
    (hm : a.eval m = .map (some b)) (hown : w.ownsMap P k (plainElem P e) b n D) (key : Value) (kl : Lit) (hx : a.eval x = key) (hkey : keyOf P k key = some kl)
    (hK : ∀ c : Bool, D.atKey kl (.lit (.bool false)) = .lit (.bool c) → wpList P ops Q rest (a.put o.dst (.bool c)) w) :
    wpList P ops Q (o :: rest) a w := by
  refine wpList_plain hg fun K' hK' => ?_
  obtain ⟨v, ps, hrun, hv⟩ := hown.lookup K ht hz (plainElem_bool he false) hkey
  obtain ⟨c, rfl, hc⟩ := plainElem_bool_inv he hv
  simp only [Prod.mk.injEq] at hc
  unfold Oper.wp
  simp [execOp, hop, hm, hx, hrun, Result.andThen]
  exact hK' _ _ (hK c hc.1)

theorem keyInt : Keyed Try.prog 3 := int_keyed Try.underlying3
theorem zeroBool (w : World) : (zeroValue 4).run Try.prog w = .ok (.bool false) w := by kernel_rfl

/-- The map says which numbers have been met. -/
def MetIs (D : DataW Unit) (l : List Int) : Prop := ∀ x : Int, D.atKey (.int .i64 x) (.lit (.bool false)) = .lit (.bool (memI x l))
theorem memI_snoc (x y : Int) (l : List Int) : memI x (l ++ [y]) = (memI x l || x == y) := by simp [memI, List.any_append]
theorem MetIs.start : MetIs (.map []) [] := fun _ => rfl
theorem MetIs.snoc {D : DataW Unit} {l : List Int} (h : MetIs D l) (hD : IsMap D) (x : Int) : MetIs (D.put (.int .i64 x) (.lit (.bool true))) (l ++ [x]) := fun y => by
  rw [memI_snoc]
  by_cases e : y = x
  · subst e
    rw [atKey_put_same hD (show WideAt.IsKeyLit (.int .i64 y) from trivial)]; simp
  · rw [atKey_put_other (by simpa using e), h y]
    simp [e]
theorem nodup_not {l : List Int} (h : l.Nodup) {k : Nat} {x : Int} (hk : l[k]? = some x) : memI x (l.take k) = false := by
  rw [Bool.eq_false_iff]
  intro hm
  unfold memI at hm
  obtain ⟨y, hy, e⟩ := List.any_eq_true.1 hm
  have e' : x = y := by simpa using e
  subst e'
  obtain ⟨hkl, hke⟩ := List.getElem?_eq_some_iff.1 hk
  obtain ⟨i, hi, he⟩ := List.getElem_of_mem hy
  rw [List.getElem_take] at he
  simp only [List.length_take] at hi
  have h2 := List.pairwise_iff_getElem.1 h i k (by omega) hkl (by omega)
  rw [he, hke] at h2
  exact h2 rfl

set_option maxRecDepth 100000 in
set_option maxHeartbeats 1000000 in
theorem twice_any (A : Option Addr) (c0 : Nat) (l : List Int) (w : World) (hA : Ints w A l) (hl : l.length ≤ 1000000) (hn : l.Nodup) (hr : ∀ x ∈ l, 0 ≤ x ∧ x ≤ 1000000) :
    Calls Try.prog 27 #[.slice A l.length c0] w fun e w' => e = .returned (.bool false) ∧ Ext w w' := by
  have hmm := @run_makeMap Try.prog
  have HN : Hid (∀ (k : Nat) (x : Int), l[k]? = some x → memI x (l.take k) = false) := fun k x h => nodup_not hn h
  have HR := hid hr
  clear hr hn
  go_enter Try.func27, Try.ntmps27
  go_wp2
  go_loopw [9] (fun i wr => ∃ (k : Nat) (D : DataW Unit), k ≤ l.length ∧ i = .int .i64 k ∧ wr.ownsMap Try.prog 3 (plainElem Try.prog 4) w.heap.size k D ∧ MetIs D (l.take k) ∧ Below w.heap.size w wr)
    (fun i _ => l.length - (intOf i).toNat)
  case atStart => exact ⟨0, .map [], Nat.zero_le _, rfl, World.ownsMap_made _ _ _ _, MetIs.start, (Below.refl _ _).alloc (Nat.le_refl _) _⟩
  case round =>
    obtain ⟨k, D, hk, rfl, hown, hmet, hnx⟩ := hrel
    by_cases hlt : k < l.length
    · have hlt' : (k : Int) < (l.length : Int) := by omega
      obtain ⟨x, hx⟩ := get_of_lt l k hlt
      have hx1 := HR.out x (mem_of_get hx)
      have hno := HN.out k x hx
      obtain ⟨b, off, rfl, e0⟩ := Ints.at_ (Ints.ext hA hnx) hx
      have hkey : keyOf Try.prog 3 (.int .i64 x) = some (.int .i64 x) := keyOf_int_mk Try.underlying3 (WalkArith.wf_i64 (by omega))
      have hsn := hmet.snoc hown.isMap x
      rw [show l.take k ++ [x] = l.take (k + 1) by rw [List.take_add_one, hx]; rfl] at hsn
      have hat0 := hmet x
      rw [hno] at hat0
      have HS := hid hsn
      have HAT := hid hat0
      clear hsn hat0 hmet hno hx
      go_wp2_with (first
        | (at_lookup; refine wpList_lookup_own_bool _ rfl _ _ 144 rfl 3 4 keyInt Try.underlying144 Try.underlying4 (zeroBool _) w.heap.size k _ rfl hown _ _ rfl hkey ?_; intro c hat; obtain rfl : c = false := (by have h := hat.symm.trans HAT.out; simpa using h))
        | (at_mapUpdate; refine wpList_mapUpdate_own _ rfl _ _ _ 144 rfl 3 4 keyInt Try.underlying144 _ w.heap.size k _ rfl hown (by unfold maxLen; omega) _ _ _ rfl rfl hkey _ [] (plainElem_bool Try.underlying4 true) ?_; intro w1 hown1 hgrow1)
        | go_in)
      go_roundw
      case rel => exact ⟨k + 1, _, by omega, by go_num, hown1, HS.out, hnx.grown hgrow1 hnx.size (fun j hj => by cases hj; exact Nat.le_refl _)⟩
      case measure => simp [intOf]; omega
    · have hlt' : ¬ (k : Int) < (l.length : Int) := by omega
      go_wp2
      go_ret
      exact ⟨rfl, hnx⟩
end Go.Proofs.Ytgnjhaomlbkgcaa

namespace Go.Proofs.Ytgnjhaomlbkgcaa
open Go Go.RowKit
set_option linter.unusedVariables false
set_option linter.unusedSimpArgs false


theorem run_ne_bd_wbd (w : World) (x y z : Int) : (binOp .neq 35 (.agg #[.int .i64 x, .int .i64 y, .int .i64 z]) (.agg #[.int .i64 x, .int .i64 y, .int .i64 z])).run Try.prog w = .ok (.bool false) w := by
  have ht : Try.prog.underlying 35 = some (.struct (Try.prog.fieldsOf 35)) := by kernel_rfl
  have hp : Try.prog.stoodInHeld 35 = false := by kernel_rfl
  rw [run_neq_struct, run_equalIn_agg w _ _ _ _ ht hp]
  have hu := Try.underlying3
  simp [Program.fieldsOf, Try.underlying35, Op.eqFields, go_sem, hu]

theorem run_ne_bd_rbd (w : World) (x y z : Int) : (binOp .neq 114 (.agg #[.int .i64 x, .int .i64 y, .int .i64 z]) (.agg #[.int .i64 x, .int .i64 y, .int .i64 z])).run Try.prog w = .ok (.bool false) w := by
  have ht : Try.prog.underlying 114 = some (.struct (Try.prog.fieldsOf 114)) := by kernel_rfl
  have hp : Try.prog.stoodInHeld 114 = false := by kernel_rfl
  rw [run_neq_struct, run_equalIn_agg w _ _ _ _ ht hp]
  have hu := Try.underlying3
  simp [Program.fieldsOf, Try.underlying114, Op.eqFields, go_sem, hu]

set_option maxRecDepth 100000 in
set_option maxHeartbeats 1000000 in
theorem equal_wbd (A A' : Option Addr) (c c' : Nat) (l : List Bd) (w : World) (hA : Bounds w A l) (hB : Bounds w A' l) (hl : l.length ≤ 9223372036854775807) :
    Calls Try.prog 138 #[.slice A l.length c, .slice A' l.length c'] w fun e w' => e = .returned (.bool true) ∧ Ext w w' := by
  go_enter Try.func138, Try.ntmps138
  go_wp2
  go_loopw [5, 13] (fun _ i wr => ∃ k : Nat, k ≤ l.length ∧ i = .int .i64 (k : Int) ∧ Ext w wr) (fun _ i _ => l.length - (intOf i).toNat)
  case atStart => exact ⟨0, Nat.zero_le _, rfl, Ext.refl _⟩
  case round =>
    obtain ⟨k, hk, rfl, hx⟩ := hrel
    by_cases hlt : k < l.length
    · have hlt' : (k : Int) < (l.length : Int) := by omega
      obtain ⟨x, hx1⟩ := get_of_lt l k hlt
      obtain ⟨b1, o1, rfl, g1, g2, g3⟩ := (hA.ext hx).at_ hx1
      obtain ⟨b2, o2, rfl, k1, k2, k3⟩ := (hB.ext hx).at_ hx1
      clear hx1
      go_wp2
      have FX : Hid (∀ w', Ext wr w' → w'.cell? ⟨b1, o1 + k * 3, none⟩ = some (.int .i64 x.f) ∧ w'.cell? ⟨b1, o1 + k * 3 + 1, none⟩ = some (.int .i64 x.t) ∧ w'.cell? ⟨b1, o1 + k * 3 + 2, none⟩ = some (.int .i64 x.m) ∧ w'.cell? ⟨b2, o2 + k * 3, none⟩ = some (.int .i64 x.f) ∧ w'.cell? ⟨b2, o2 + k * 3 + 1, none⟩ = some (.int .i64 x.t) ∧ w'.cell? ⟨b2, o2 + k * 3 + 2, none⟩ = some (.int .i64 x.m)) :=
        fun w' h => ⟨h.cell g1, h.cell g2, h.cell g3, h.cell k1, h.cell k2, h.cell k3⟩
      clear g1 g2 g3 k1 k2 k3
      refine wp_region_shut Ext (fun w' => Ext wr w') (fun _ => none) (by kernel_rfl) (by kernel_rfl) (fun _ _ h k => h.trans k) (fun i R h => by cases h) (Ext.drew (Ext.refl wr)) ?_
      refine wM_val ?ua0 rfl rfl Ext.refl (fun w' hD => ?ha0) (fun pha0 => ?na0)
      case ha0 =>
        obtain ⟨d0, d1, d2, d3, d4, d5⟩ := FX.out _ hD.1
        go_simp; rfl
      simp only [Act.put, List.setIfInBounds_toArray, List.set_cons_succ, List.set_cons_zero, Nat.reduceAdd]
      refine wM_val ?ua1 rfl rfl Ext.refl (fun w' hD => ?ha1) (fun pha1 => ?na1)
      case ha1 =>
        obtain ⟨d0, d1, d2, d3, d4, d5⟩ := FX.out _ hD.1
        go_simp; rfl
      simp only [Act.put, List.setIfInBounds_toArray, List.set_cons_succ, List.set_cons_zero, Nat.reduceAdd]
      refine wM_val ?ua2 rfl rfl Ext.refl (fun w' hD => ?ha2) (fun pha2 => ?na2)
      case ha2 =>
        obtain ⟨d0, d1, d2, d3, d4, d5⟩ := FX.out _ hD.1
        go_simp; rfl
      simp only [Act.put, List.setIfInBounds_toArray, List.set_cons_succ, List.set_cons_zero, Nat.reduceAdd]
      refine wM_val ?ua3 rfl rfl Ext.refl (fun w' hD => ?ha3) (fun pha3 => ?na3)
      case ha3 =>
        obtain ⟨d0, d1, d2, d3, d4, d5⟩ := FX.out _ hD.1
        go_simp; rfl
      simp only [Act.put, List.setIfInBounds_toArray, List.set_cons_succ, List.set_cons_zero, Nat.reduceAdd]
      refine wM_val ?ua4 rfl rfl Ext.refl (fun w' hD => ?ha4) (fun pha4 => ?na4)
      case ha4 =>
        obtain ⟨d0, d1, d2, d3, d4, d5⟩ := FX.out _ hD.1
        go_simp; rfl
      simp only [Act.put, List.setIfInBounds_toArray, List.set_cons_succ, List.set_cons_zero, Nat.reduceAdd]
      refine wM_val ?ua5 rfl rfl Ext.refl (fun w' hD => ?ha5) (fun pha5 => ?na5)
      case ha5 =>
        obtain ⟨d0, d1, d2, d3, d4, d5⟩ := FX.out _ hD.1
        go_simp; rfl
      simp only [Act.put, List.setIfInBounds_toArray, List.set_cons_succ, List.set_cons_zero, Nat.reduceAdd]
      refine wM_val ?ua6 rfl rfl Ext.refl (fun w' hD => ?ha6) (fun pha6 => ?na6)
      case ha6 =>
        obtain ⟨d0, d1, d2, d3, d4, d5⟩ := FX.out _ hD.1
        go_simp; rfl
      simp only [Act.put, List.setIfInBounds_toArray, List.set_cons_succ, List.set_cons_zero, Nat.reduceAdd]
      refine wM_val ?ua7 rfl rfl Ext.refl (fun w' hD => ?ha7) (fun pha7 => ?na7)
      case ha7 =>
        obtain ⟨d0, d1, d2, d3, d4, d5⟩ := FX.out _ hD.1
        go_simp; rfl
      simp only [Act.put, List.setIfInBounds_toArray, List.set_cons_succ, List.set_cons_zero, Nat.reduceAdd]
      refine wM_val (.bool false) rfl rfl Ext.refl (fun w' hD => ?ha8) (fun pha8 => ?na8)
      case ha8 =>
        have e := run_ne_bd_wbd w' x.f x.t x.m
        go_simp
      simp only [Act.put, List.setIfInBounds_toArray, List.set_cons_succ, List.set_cons_zero, Nat.reduceAdd]
      refine wM_nil ?_
      intro w9 hw9 hF9
      go_wp2
      go_roundw
      case rel => exact ⟨k + 1, by omega, by go_num, hx.trans hw9⟩
      case measure => simp [intOf]; omega
    · have hlt' : ¬ (k : Int) < (l.length : Int) := by omega
      go_wp2
      go_ret
      exact ⟨rfl, hx⟩

theorem eq_wbd (A A' : Option Addr) (c c' : Nat) (l : List Bd) (w : World) (hA : Bounds w A l) (hB : Bounds w A' l) (hl : l.length ≤ 9223372036854775807) :
    Calls Try.prog 102 #[.slice A l.length c, .slice A' l.length c'] w fun e w' => e = .returned (.bool true) ∧ Ext w w' := by
  go_enter Try.func102, Try.ntmps102
  go_wp2_with fail
  refine (equal_wbd A A' c c' l w hA hB hl).mono ?_
  rintro e w1 ⟨rfl, hb⟩
  go_wp2
  go_ret
  exact ⟨rfl, hb⟩

set_option maxRecDepth 100000 in
set_option maxHeartbeats 1000000 in
theorem equal_rbd (A A' : Option Addr) (c c' : Nat) (l : List Bd) (w : World) (hA : Bounds w A l) (hB : Bounds w A' l) (hl : l.length ≤ 9223372036854775807) :
    Calls Try.prog 129 #[.slice A l.length c, .slice A' l.length c'] w fun e w' => e = .returned (.bool true) ∧ Ext w w' := by
  go_enter Try.func129, Try.ntmps129
  go_wp2
  go_loopw [5, 13] (fun _ i wr => ∃ k : Nat, k ≤ l.length ∧ i = .int .i64 (k : Int) ∧ Ext w wr) (fun _ i _ => l.length - (intOf i).toNat)
  case atStart => exact ⟨0, Nat.zero_le _, rfl, Ext.refl _⟩
  case round =>
    obtain ⟨k, hk, rfl, hx⟩ := hrel
    by_cases hlt : k < l.length
    · have hlt' : (k : Int) < (l.length : Int) := by omega
      obtain ⟨x, hx1⟩ := get_of_lt l k hlt
      obtain ⟨b1, o1, rfl, g1, g2, g3⟩ := (hA.ext hx).at_ hx1
      obtain ⟨b2, o2, rfl, k1, k2, k3⟩ := (hB.ext hx).at_ hx1
      clear hx1
      go_wp2
      have FX : Hid (∀ w', Ext wr w' → w'.cell? ⟨b1, o1 + k * 3, none⟩ = some (.int .i64 x.f) ∧ w'.cell? ⟨b1, o1 + k * 3 + 1, none⟩ = some (.int .i64 x.t) ∧ w'.cell? ⟨b1, o1 + k * 3 + 2, none⟩ = some (.int .i64 x.m) ∧ w'.cell? ⟨b2, o2 + k * 3, none⟩ = some (.int .i64 x.f) ∧ w'.cell? ⟨b2, o2 + k * 3 + 1, none⟩ = some (.int .i64 x.t) ∧ w'.cell? ⟨b2, o2 + k * 3 + 2, none⟩ = some (.int .i64 x.m)) :=
        fun w' h => ⟨h.cell g1, h.cell g2, h.cell g3, h.cell k1, h.cell k2, h.cell k3⟩
      clear g1 g2 g3 k1 k2 k3
      refine wp_region_shut Ext (fun w' => Ext wr w') (fun _ => none) (by kernel_rfl) (by kernel_rfl) (fun _ _ h k => h.trans k) (fun i R h => by cases h) (Ext.drew (Ext.refl wr)) ?_
      refine wM_val ?ua0 rfl rfl Ext.refl (fun w' hD => ?ha0) (fun pha0 => ?na0)
      case ha0 =>
        obtain ⟨d0, d1, d2, d3, d4, d5⟩ := FX.out _ hD.1
        go_simp; rfl
      simp only [Act.put, List.setIfInBounds_toArray, List.set_cons_succ, List.set_cons_zero, Nat.reduceAdd]
      refine wM_val ?ua1 rfl rfl Ext.refl (fun w' hD => ?ha1) (fun pha1 => ?na1)
      case ha1 =>
        obtain ⟨d0, d1, d2, d3, d4, d5⟩ := FX.out _ hD.1
        go_simp; rfl
      simp only [Act.put, List.setIfInBounds_toArray, List.set_cons_succ, List.set_cons_zero, Nat.reduceAdd]
      refine wM_val ?ua2 rfl rfl Ext.refl (fun w' hD => ?ha2) (fun pha2 => ?na2)
      case ha2 =>
        obtain ⟨d0, d1, d2, d3, d4, d5⟩ := FX.out _ hD.1
        go_simp; rfl
      simp only [Act.put, List.setIfInBounds_toArray, List.set_cons_succ, List.set_cons_zero, Nat.reduceAdd]
      refine wM_val ?ua3 rfl rfl Ext.refl (fun w' hD => ?ha3) (fun pha3 => ?na3)
      case ha3 =>
        obtain ⟨d0, d1, d2, d3, d4, d5⟩ := FX.out _ hD.1
        go_simp; rfl
      simp only [Act.put, List.setIfInBounds_toArray, List.set_cons_succ, List.set_cons_zero, Nat.reduceAdd]
      refine wM_val ?ua4 rfl rfl Ext.refl (fun w' hD => ?ha4) (fun pha4 => ?na4)
      case ha4 =>
        obtain ⟨d0, d1, d2, d3, d4, d5⟩ := FX.out _ hD.1
        go_simp; rfl
      simp only [Act.put, List.setIfInBounds_toArray, List.set_cons_succ, List.set_cons_zero, Nat.reduceAdd]
      refine wM_val ?ua5 rfl rfl Ext.refl (fun w' hD => ?ha5) (fun pha5 => ?na5)
      case ha5 =>
        obtain ⟨d0, d1, d2, d3, d4, d5⟩ := FX.out _ hD.1
        go_simp; rfl
      simp only [Act.put, List.setIfInBounds_toArray, List.set_cons_succ, List.set_cons_zero, Nat.reduceAdd]
      refine wM_val ?ua6 rfl rfl Ext.refl (fun w' hD => ?ha6) (fun pha6 => ?na6)
      case ha6 =>
        obtain ⟨d0, d1, d2, d3, d4, d5⟩ := FX.out _ hD.1
        go_simp; rfl
      simp only [Act.put, List.setIfInBounds_toArray, List.set_cons_succ, List.set_cons_zero, Nat.reduceAdd]
      refine wM_val ?ua7 rfl rfl Ext.refl (fun w' hD => ?ha7) (fun pha7 => ?na7)
      case ha7 =>
        obtain ⟨d0, d1, d2, d3, d4, d5⟩ := FX.out _ hD.1
        go_simp; rfl
      simp only [Act.put, List.setIfInBounds_toArray, List.set_cons_succ, List.set_cons_zero, Nat.reduceAdd]
      refine wM_val (.bool false) rfl rfl Ext.refl (fun w' hD => ?ha8) (fun pha8 => ?na8)
      case ha8 =>
        have e := run_ne_bd_rbd w' x.f x.t x.m
        go_simp
      simp only [Act.put, List.setIfInBounds_toArray, List.set_cons_succ, List.set_cons_zero, Nat.reduceAdd]
      refine wM_nil ?_
      intro w9 hw9 hF9
      go_wp2
      go_roundw
      case rel => exact ⟨k + 1, by omega, by go_num, hx.trans hw9⟩
      case measure => simp [intOf]; omega
    · have hlt' : ¬ (k : Int) < (l.length : Int) := by omega
      go_wp2
      go_ret
      exact ⟨rfl, hx⟩

theorem eq_rbd (A A' : Option Addr) (c c' : Nat) (l : List Bd) (w : World) (hA : Bounds w A l) (hB : Bounds w A' l) (hl : l.length ≤ 9223372036854775807) :
    Calls Try.prog 69 #[.slice A l.length c, .slice A' l.length c'] w fun e w' => e = .returned (.bool true) ∧ Ext w w' := by
  go_enter Try.func69, Try.ntmps69
  go_wp2_with fail
  refine (equal_rbd A A' c c' l w hA hB hl).mono ?_
  rintro e w1 ⟨rfl, hb⟩
  go_wp2
  go_ret
  exact ⟨rfl, hb⟩

def greatC (c : Cs) : Bool := c.cl.any (fun x => decide (8 < x.bs.length)) || decide (30 < c.bs.length) || decide (12 < c.cl.length)
set_option maxRecDepth 100000 in
set_option maxHeartbeats 1000000 in
theorem great_any (v : Value) (c : Cs) (w : World) (hc : CsR w v c) (hs : c.sized) :
    Calls Try.prog 35 #[v] w fun e w' => e = .returned (.bool (greatC c)) ∧ Ext w w' := by
  obtain ⟨A1, c1, A2, c2, rfl, hB, hC⟩ := hc
  obtain ⟨z1, z2, z3⟩ := hs
  have Z3 := hid z3
  obtain ⟨R, hR⟩ : ∃ R, greatC c = R := ⟨_, rfl⟩
  have HR := hid hR
  rw [hR]
  clear hR z3
  obtain ⟨W0, hW0⟩ : ∃ W0, w.alloc (.cells #[.int .i64 c.ev, .slice A1 c.bs.length c1, .int .i64 c.wi, .slice A2 c.cl.length c2] 26) = W0 := ⟨_, rfl⟩
  have hx0 : Ext w W0 := by rw [← hW0]; exact Ext.alloc (Ext.refl w) _
  have FX : Hid (∀ w', Ext W0 w' → w'.cell? ⟨w.heap.size, 1, none⟩ = some (.slice A1 c.bs.length c1) ∧ w'.cell? ⟨w.heap.size, 3, none⟩ = some (.slice A2 c.cl.length c2)) := fun w' h => ⟨h.cell (by rw [← hW0]; simp [go_sem]), h.cell (by rw [← hW0]; simp [go_sem])⟩
  obtain ⟨q1, q3⟩ := FX.out W0 (Ext.refl _)
  go_enter Try.func35, Try.ntmps35
  go_wp2
  clear hW0 q1 q3
  go_loopw [8] (fun i wr => ∃ k : Nat, k ≤ c.cl.length ∧ i = .int .i64 (k : Int) ∧ Ext W0 wr ∧ Hid ((c.cl.take k).any (fun x => decide (8 < x.bs.length)) = false)) (fun i _ => c.cl.length - (intOf i).toNat)
  case atStart => exact ⟨0, Nat.zero_le _, rfl, Ext.refl _, rfl⟩
  case round =>
    obtain ⟨k, hk, rfl, hx, HQ⟩ := hrel
    by_cases hlt : k < c.cl.length
    · have hlt' : (k : Int) < (c.cl.length : Int) := by omega
      obtain ⟨x, hxk⟩ := get_of_lt c.cl k hlt
      obtain ⟨b, off, A4, c4, rfl, g0, g1, hB4⟩ := (hC.ext (hx0.trans hx)).at_ hxk
      have HX := hid hxk
      have hzx := Z3.out x (mem_of_get hxk)
      clear hxk
      by_cases hq : 8 < x.bs.length
      · have hq' : (8 : Int) < (x.bs.length : Int) := by omega
        have H : Hid (R = true) := by
          unfold Hid
          rw [← HR.out]
          unfold greatC
          rw [List.any_eq_true.2 ⟨x, List.mem_of_getElem? HX.out, by simpa using hq⟩]
          rfl
        clear HQ HX hq
        go_wp2
        go_ret
        exact ⟨ret_of (bool_of H.out.symm), (hx0.trans hx).alloc _⟩
      · have hq' : ¬ (8 : Int) < (x.bs.length : Int) := by omega
        have HQ2 : Hid ((c.cl.take (k + 1)).any (fun x => decide (8 < x.bs.length)) = false) := by
          unfold Hid
          rw [take_next HX.out, List.any_append, HQ.out]
          simpa using hq
        clear HQ HX hq
        go_wp2
        go_roundw
        case rel => exact ⟨k + 1, by omega, by go_num, hx.alloc _, HQ2⟩
        case measure => simp [intOf]; omega
    · have hlt' : ¬ (k : Int) < (c.cl.length : Int) := by omega
      have HA : Hid (c.cl.any (fun x => decide (8 < x.bs.length)) = false) := by
        have h := HQ.out
        rw [List.take_of_length_le (by omega)] at h; exact h
      obtain ⟨q1, q3⟩ := FX.out wr hx
      by_cases hq : 30 < c.bs.length
      · have hq' : (30 : Int) < (c.bs.length : Int) := by omega
        have H : Hid (R = true) := by unfold Hid; rw [← HR.out]; unfold greatC; rw [HA.out]; simp [hq]
        clear HQ hq
        go_wp2
        go_ret
        exact ⟨ret_of (bool_of H.out.symm), hx0.trans hx⟩
      · have hq' : ¬ (30 : Int) < (c.bs.length : Int) := by omega
        by_cases hq2 : 12 < c.cl.length
        · have hq2' : (12 : Int) < (c.cl.length : Int) := by omega
          have H : Hid (R = true) := by unfold Hid; rw [← HR.out]; unfold greatC; rw [HA.out]; simp [hq2]
          clear HQ hq hq2
          go_wp2
          go_ret
          exact ⟨ret_of (bool_of H.out.symm), hx0.trans hx⟩
        · have hq2' : ¬ (12 : Int) < (c.cl.length : Int) := by omega
          have H : Hid (R = false) := by unfold Hid; rw [← HR.out]; unfold greatC; rw [HA.out]; simp [hq, hq2]
          clear HQ hq hq2
          go_wp2
          go_ret
          exact ⟨ret_of (bool_of H.out.symm), hx0.trans hx⟩

set_option maxRecDepth 100000 in
set_option maxHeartbeats 1000000 in
theorem bounded_any (A : Option Addr) (k0 : Nat) (l : List Bd) (w : World) (hA : Bounds w A l) (hl : l.length * 24 ≤ 140737488355328) :
    Calls Try.prog 70 #[.slice A l.length k0] w fun e w' => ∃ A' c', e = .returned (.slice A' l.length c') ∧ w'.ownsRow w.heap.size 114 3 (.slice A' l.length c') l.length (bcells l) ∧ Ext w w' := by
  go_enter Try.func70, Try.ntmps70
  go_wp2
  go_loopw [3, 8] (fun s i wr => ∃ (k : Nat) (A' : Option Addr) (c' : Nat), k ≤ l.length ∧ i = .int .i64 (k : Int) ∧ s = .slice A' k c' ∧ Ext w wr ∧ Hid (wr.ownsRow w.heap.size 114 3 (.slice A' k c') k (bcells (l.take k)))) (fun _ i _ => l.length - (intOf i).toNat)
  case atStart => exact ⟨0, none, 0, Nat.zero_le _, rfl, rfl, Ext.refl _, own_nil _ _ _ _⟩
  case round =>
    obtain ⟨k, A', c', hk, rfl, rfl, hx, O⟩ := hrel
    by_cases hlt : k < l.length
    · have hlt' : (k : Int) < (l.length : Int) := by omega
      obtain ⟨x, hxk⟩ := get_of_lt l k hlt
      have HT : Hid (l.take (k + 1) = l.take k ++ [x]) := take_next hxk
      obtain ⟨b, off, rfl, g0, g1, g2⟩ := (hA.ext hx).at_ hxk
      have hsz := hx.size
      have hFk : (k + 1) * 24 ≤ 140737488355328 := by omega
      obtain ⟨Wx, hWx⟩ : ∃ Wx, wr.alloc (.cells #[.int .i64 x.f, .int .i64 x.t, .int .i64 x.m] 35) = Wx := ⟨_, rfl⟩
      have hxw : Ext wr Wx := by rw [← hWx]; exact Ext.alloc (Ext.refl _) _
      have p0 : Wx.cell? ⟨wr.heap.size, 0, none⟩ = some (.int .i64 x.f) := by rw [← hWx]; simp [go_sem]
      have p1 : Wx.cell? ⟨wr.heap.size, 1, none⟩ = some (.int .i64 x.t) := by rw [← hWx]; simp [go_sem]
      have p2 : Wx.cell? ⟨wr.heap.size, 2, none⟩ = some (.int .i64 x.m) := by rw [← hWx]; simp [go_sem]
      have hxo := Ext.alloc (Ext.refl Wx) (.cells #[.int .i64 x.f, .int .i64 x.t, .int .i64 x.m] 114)
      have hbase : w.heap.size ≤ (Wx.alloc (.cells #[.int .i64 x.f, .int .i64 x.t, .int .i64 x.m] 114)).heap.size := by have := hxo.size; have := hxw.size; omega
      have O2 := hid (own_below (own_below O.out hxw) hxo)
      clear hxk O
      go_wp2_with (at_builtin; refine wpList_append_rd _ rfl _ _ 69 rfl elem_rbound w.heap.size _ k (bcells (l.take k)) rfl O2.out _ 1 1 (bcells [x]) rfl rfl (rd_block (heap_alloc_new Wx _)) (bcells_one _) hFk hbase ?_)
      intro A5 c5 w5 hown5 hbel5 hgr5 _
      have hx5 : Ext w w5 := Below.trans ((hx.trans hxw).trans hxo) hbel5
      have O5 : Hid (w5.ownsRow w.heap.size 114 3 (.slice A5 (k + 1) c5) (k + 1) (bcells (l.take (k + 1)))) := by
        unfold Hid; rw [HT.out, bcells_app]; exact hown5
      clear hown5 hbel5 hgr5 O2 hxo HT hxw
      go_wp2
      go_roundw
      case rel => exact ⟨k + 1, A5, c5, by omega, by go_num, rfl, hx5, O5⟩
      case measure => simp [intOf]; omega
    · have hlt' : ¬ (k : Int) < (l.length : Int) := by omega
      have hke : k = l.length := by omega
      subst hke
      have O5 : Hid (wr.ownsRow w.heap.size 114 3 (.slice A' l.length c') l.length (bcells l)) := by
        have h := O.out
        rw [List.take_length] at h; exact h
      clear O
      go_wp2
      go_ret
      exact ⟨A', c', rfl, O5.out, hx⟩
end Go.Proofs.Ytgnjhaomlbkgcaa

namespace Go.Proofs.Ytgnjhaomlbkgcaa
open Go Go.RowKit
set_option linter.unusedVariables false
set_option linter.unusedSimpArgs false

set_option maxRecDepth 100000 in
set_option maxHeartbeats 4000000 in
theorem refshows_any (v : Value) (c : Cs) (a b : Int) (A : Option Addr) (k : Nat) (row : List Int) (w : World) (hc : CsR w v c) (hs : c.sized) (hA : Ints w A row) (hl : row.length ≤ 9223372036854775807) :
    Calls Try.prog 38 #[v, .int .i64 a, .int .i64 b, .slice A row.length k] w fun e w' => e = .returned (.tuple #[.int .i64 (showsOf c a b row).1, .int .i64 (showsOf c a b row).2]) ∧ Ext w w' := by
  have hc' := hc
  obtain ⟨A1, c1, A2, c2, rfl, hB, hC⟩ := hc
  obtain ⟨F, hF⟩ : ∃ F, showsOf c a b row = F := ⟨_, rfl⟩
  rw [hF]
  unfold showsOf at hF
  have HF := hid hF
  clear hF
  obtain ⟨W0, hW0⟩ : ∃ W0, w.alloc (.cells #[.int .i64 c.ev, .slice A1 c.bs.length c1, .int .i64 c.wi, .slice A2 c.cl.length c2] 72) = W0 := ⟨_, rfl⟩
  have hx0 : Ext w W0 := by rw [← hW0]; exact Ext.alloc (Ext.refl w) _
  have FX : Hid (∀ w', Ext W0 w' → w'.cell? ⟨w.heap.size, 0, none⟩ = some (.int .i64 c.ev) ∧ w'.cell? ⟨w.heap.size, 1, none⟩ = some (.slice A1 c.bs.length c1) ∧ w'.cell? ⟨w.heap.size, 2, none⟩ = some (.int .i64 c.wi) ∧ w'.cell? ⟨w.heap.size, 3, none⟩ = some (.slice A2 c.cl.length c2)) := fun w' h => ⟨h.cell (by rw [← hW0]; simp [go_sem]), h.cell (by rw [← hW0]; simp [go_sem]), h.cell (by rw [← hW0]; simp [go_sem]), h.cell (by rw [← hW0]; simp [go_sem])⟩
  obtain ⟨q0, q1, q2, q3⟩ := FX.out W0 (Ext.refl _)
  go_enter Try.func38, Try.ntmps38
  go_wp2_with fail
  clear hW0 q0 q1 q2 q3
  refine (refcheck_any _ c W0 (hc'.ext hx0) hs).mono ?_
  rintro e w1 ⟨rfl, hb1⟩
  have hx1 := hx0.trans hb1
  obtain ⟨q0, q1, q2, q3⟩ := FX.out w1 hb1
  by_cases h0 : checkC c = 0
  case neg =>
    rw [if_pos h0] at HF
    have h0' : (checkC c != 0) = true := by simpa using h0
    obtain ⟨K, hK⟩ : ∃ K, checkC c = K := ⟨_, rfl⟩
    rw [hK] at h0' h0 HF ⊢
    clear hK
    go_wp2
    go_ret2
    exact ⟨by rw [← HF.out]; rfl, hx1⟩
  rw [if_neg (by simp [h0])] at HF
  have H0 := hid h0
  rw [h0]
  clear h0
  obtain ⟨ev1, ev8⟩ := checkC_ev H0.out
  obtain ⟨z1, z2⟩ := sized_all H0.out
  have h52 := checkC_52 H0.out
  have hwr : IntKind.i64.wrap (c.ev - 1) = c.ev - 1 := IntWalk.i64_in _ ⟨by omega, by omega⟩
  go_wp2_with fail
  refine (off_any _ _ _ _).mono ?_
  rintro e w2 ⟨rfl, rfl⟩
  cases hq1 : inB a 0 (c.ev - 1)
  · rw [if_pos (by simp [hq1])] at HF
    go_wp2
    go_ret2
    exact ⟨by rw [← HF.out]; rfl, hx1⟩
  go_wp2_with fail
  refine (off_any _ _ _ _).mono ?_
  rintro e w2 ⟨rfl, rfl⟩
  cases hq2 : inB b 0 (c.ev - 1)
  · rw [if_pos (by simp [hq2])] at HF
    go_wp2
    go_ret2
    exact ⟨by rw [← HF.out]; rfl, hx1⟩
  rw [if_neg (by simp [hq1, hq2])] at HF
  go_wp2_with fail
  refine (refall_any _ c w1 (hc'.ext hx1) z1 hs).mono ?_
  rintro e w2 ⟨A', c', rfl, ho, hb2⟩
  have hx2 := hx1.trans hb2
  have hBo2 : Bounds w2 A' c.all := Rd.of_own ho
  clear ho hwr hq1 hq2
  obtain ⟨q0, q1, q2, q3⟩ := FX.out w2 (hb1.trans hb2)
  by_cases hq3 : c.all.length < row.length
  · rw [if_pos hq3] at HF
    have hq3' : (c.all.length : Int) < (row.length : Int) := by omega
    go_wp2
    go_ret2
    exact ⟨by rw [← HF.out]; rfl, hx2⟩
  rw [if_neg hq3] at HF
  have hq3' : ¬ (c.all.length : Int) < (row.length : Int) := by omega
  have hwl : IntKind.i64.wrap ((c.all.length : Int) - 1) = (c.all.length : Int) - 1 := IntWalk.i64_in _ ⟨by omega, by omega⟩
  go_wp2
  clear q0 q1 q2 q3
  go_loopw [12] (fun i wr => ∃ k : Nat, k ≤ row.length ∧ i = .int .i64 (k : Int) ∧ Ext w2 wr ∧ Hid ((row.take k).all (fun i => inB i 0 ((c.all.length : Int) - 1)) = true)) (fun i _ => row.length - (intOf i).toNat)
  case atStart => exact ⟨0, Nat.zero_le _, rfl, Ext.refl _, rfl⟩
  case round =>
    obtain ⟨k, hk, rfl, hx, HQ⟩ := hrel
    by_cases hlt : k < row.length
    · have hlt' : (k : Int) < (row.length : Int) := by omega
      obtain ⟨x, hxk⟩ := get_of_lt row k hlt
      obtain ⟨b2, o2, rfl, g0⟩ := (hA.ext (hx2.trans hx)).at_ hxk
      have HX := hid hxk
      clear hxk
      go_wp2_with fail
      refine (off_any _ _ _ _).mono ?_
      rintro e w3 ⟨rfl, rfl⟩
      cases hq : inB x 0 ((c.all.length : Int) - 1)
      · rw [if_pos (all_false (p := fun i => inB i 0 ((c.all.length : Int) - 1)) HX.out hq)] at HF
        go_wp2
        go_ret2
        exact ⟨by rw [← HF.out]; rfl, hx2.trans hx⟩
      · have HQ2 : Hid ((row.take (k + 1)).all (fun i => inB i 0 ((c.all.length : Int) - 1)) = true) := all_take HQ.out HX.out hq
        clear HQ HX
        go_wp2
        go_roundw
        case rel => exact ⟨k + 1, by omega, by go_num, hx, HQ2⟩
        case measure => simp [intOf]; omega
    · have hlt' : ¬ (k : Int) < (row.length : Int) := by omega
      have hq4 : (row.all fun i => inB i 0 ((c.all.length : Int) - 1)) = true := all_full HQ.out (by omega)
      rw [if_neg (by simp [hq4])] at HF
      have hrow : ∀ i ∈ row, 0 ≤ i ∧ i ≤ (c.all.length : Int) - 1 := fun i hi => inB_iff.1 (List.all_eq_true.1 hq4 i hi)
      have HROW := hid hrow
      clear hrow hq4 HQ
      have HL : Hid (∀ b ∈ c.all, -1000 ≤ b.m ∧ b.m ≤ 1000) := fun b hb => limOK_get (checkC_ok H0.out).2.1 hb
      obtain ⟨wo, rfl⟩ : ∃ wo : World, wo = wr := ⟨_, rfl⟩
      go_wp2
      go_loopw [13, 14, 15] (fun s1 s12 s47 wr => ∃ (kk : Nat) (at_ s : Int), kk ≤ row.length ∧ s47 = .int .i64 kk ∧ s1 = .int .i64 at_ ∧ s12 = .int .i64 s ∧ Hid ((match alongC c.all at_ s (row.drop kk) with | some (e, s) => if e = b then (s, 0) else (0, 8) | none => ((0, 8) : Int × Int)) = F) ∧ -(1000 * kk) ≤ s ∧ s ≤ 1000 * kk ∧ Ext w2 wr) (fun _ _ s47 _ => row.length - (intOf s47).toNat)
      case atStart => exact ⟨0, a, 0, Nat.zero_le _, rfl, rfl, rfl, HF, by simp, by simp, hx⟩
      case round =>
        obtain ⟨kk, at_, s, hk, rfl, rfl, rfl, HF, hs1, hs2, hxr⟩ := hrel
        by_cases hlt : kk < row.length
        · have hlt' : (kk : Int) < (row.length : Int) := by omega
          obtain ⟨i, hi⟩ := get_of_lt row kk hlt
          obtain ⟨hi0, hi1⟩ := HROW.out i (mem_of_get hi)
          obtain ⟨n, rfl⟩ : ∃ n : Nat, i = n := ⟨i.toNat, by omega⟩
          have hn : n < c.all.length := by omega
          have hn' : (n : Int) < (c.all.length : Int) := by omega
          obtain ⟨x, hx⟩ := get_of_lt c.all n hn
          have hxm := HL.out x (mem_of_get hx)
          obtain ⟨rb, roff, rfl, cr⟩ := Ints.at_ (hA.ext (hx2.trans hxr)) hi
          obtain ⟨bb, boff, rfl, e0, e1, e2⟩ := (hBo2.ext hxr).at_ hx
          have HX : Hid ((match (if x.f = at_ then alongC c.all x.t (s + x.m) (row.drop (kk + 1)) else none) with | some (e, s) => if e = b then (s, 0) else (0, 8) | none => ((0, 8) : Int × Int)) = F) := by
            unfold Hid
            rw [← HF.out, alongC_drop c.all row kk n at_ s hi]
            simp only [Int.toNat_natCast, hx]
          have hwr : IntKind.i64.wrap (s + x.m) = s + x.m := IntWalk.i64_in _ ⟨by omega, by omega⟩
          clear hi hx HF
          by_cases hf : x.f = at_
          · rw [if_pos hf] at HX
            subst hf
            have hne : (x.f != x.f) = false := by simp
            go_wp2
            go_roundw
            case rel => exact ⟨kk + 1, _, _, by omega, by go_num, rfl, rfl, HX, by omega, by omega, hxr⟩
            case measure => simp [intOf]; omega
          · rw [if_neg hf] at HX
            have hne : (x.f != at_) = true := by simpa using hf
            go_wp2
            go_ret2
            exact ⟨by rw [← HX.out]; rfl, hx2.trans hxr⟩
        · have hlt' : ¬ (kk : Int) < (row.length : Int) := by omega
          rw [List.drop_eq_nil_of_le (by omega)] at HF
          by_cases hab : at_ = b
          · have HX : Hid ((s, 0) = F) := by unfold Hid; rw [← HF.out]; simp [alongC, hab]
            clear HF
            subst hab
            have hne : (at_ != at_) = false := by simp
            go_wp2
            go_ret2
            exact ⟨by rw [← HX.out]; rfl, hx2.trans hxr⟩
          · have HX : Hid ((0, 8) = F) := by unfold Hid; rw [← HF.out]; simp [alongC, hab]
            have hne : (at_ != b) = true := by simpa using hab
            clear HF
            go_wp2
            go_ret2
            exact ⟨by rw [← HX.out]; rfl, hx2.trans hxr⟩

set_option maxRecDepth 100000 in
set_option maxHeartbeats 4000000 in
theorem same_yes (v v' : Value) (c : Cs) (w : World) (hc : CsR w v c) (hd : CsR w v' c) (hs : c.sized) :
    Calls Try.prog 45 #[v, v'] w fun e w' => e = .returned (.bool true) ∧ Ext w w' := by
  obtain ⟨A1, c1, A2, c2, rfl, hB, hC⟩ := hc
  obtain ⟨A3, c3, A4, c4, rfl, hB', hC'⟩ := hd
  obtain ⟨z1, z2, z3⟩ := hs
  have Z3 := hid z3
  clear z3
  obtain ⟨W1, hW1⟩ : ∃ W1, (w.alloc (.cells #[.int .i64 c.ev, .slice A1 c.bs.length c1, .int .i64 c.wi, .slice A2 c.cl.length c2] 26)).alloc (.cells #[.int .i64 c.ev, .slice A3 c.bs.length c3, .int .i64 c.wi, .slice A4 c.cl.length c4] 26) = W1 := ⟨_, rfl⟩
  have hx1 : Ext w W1 := by rw [← hW1]; exact (Ext.alloc (Ext.refl w) _).alloc _
  have FX : Hid (∀ w', Ext W1 w' → (w'.cell? ⟨w.heap.size, 0, none⟩ = some (.int .i64 c.ev) ∧ w'.cell? ⟨w.heap.size, 1, none⟩ = some (.slice A1 c.bs.length c1) ∧ w'.cell? ⟨w.heap.size, 2, none⟩ = some (.int .i64 c.wi) ∧ w'.cell? ⟨w.heap.size, 3, none⟩ = some (.slice A2 c.cl.length c2)) ∧
      w'.cell? ⟨w.heap.size + 1, 0, none⟩ = some (.int .i64 c.ev) ∧ w'.cell? ⟨w.heap.size + 1, 1, none⟩ = some (.slice A3 c.bs.length c3) ∧ w'.cell? ⟨w.heap.size + 1, 2, none⟩ = some (.int .i64 c.wi) ∧ w'.cell? ⟨w.heap.size + 1, 3, none⟩ = some (.slice A4 c.cl.length c4)) := fun w' h =>
    ⟨⟨h.cell (by rw [← hW1]; simp [go_sem]), h.cell (by rw [← hW1]; simp [go_sem]), h.cell (by rw [← hW1]; simp [go_sem]), h.cell (by rw [← hW1]; simp [go_sem])⟩, h.cell (by rw [← hW1]; simp [go_sem]), h.cell (by rw [← hW1]; simp [go_sem]), h.cell (by rw [← hW1]; simp [go_sem]), h.cell (by rw [← hW1]; simp [go_sem])⟩
  obtain ⟨⟨q0, q1, q2, q3⟩, p0, p1, p2, p3⟩ := FX.out W1 (Ext.refl _)
  have hn0 : (c.ev != c.ev) = false := by simp
  have hn1 : (c.wi != c.wi) = false := by simp
  have hn2 : ((c.cl.length : Int) != (c.cl.length : Int)) = false := by simp
  go_enter Try.func45, Try.ntmps45
  go_wp2_with fail
  clear hW1 q0 q1 q2 q3 p0 p1 p2 p3
  refine (eq_wbd A1 A3 c1 c3 c.bs W1 (hB.ext hx1) (hB'.ext hx1) z1).mono ?_
  rintro e w1 ⟨rfl, h1⟩
  obtain ⟨⟨q0, q1, q2, q3⟩, p0, p1, p2, p3⟩ := FX.out w1 h1
  go_wp2
  clear q0 q1 q2 q3 p0 p1 p2 p3
  go_loopw [39] (fun i wr => ∃ k : Nat, k ≤ c.cl.length ∧ i = .int .i64 (k : Int) ∧ Ext W1 wr) (fun i _ => c.cl.length - (intOf i).toNat)
  case atStart => exact ⟨0, Nat.zero_le _, rfl, h1⟩
  case round =>
    obtain ⟨k, hk, rfl, hx⟩ := hrel
    by_cases hlt : k < c.cl.length
    · have hlt' : (k : Int) < (c.cl.length : Int) := by omega
      obtain ⟨x, hxk⟩ := get_of_lt c.cl k hlt
      obtain ⟨b1, o1, A5, k5, rfl, g0, g1, hB5⟩ := (hC.ext (hx1.trans hx)).at_ hxk
      obtain ⟨b2, o2, A6, k6, rfl, g2, g3, hB6⟩ := (hC'.ext (hx1.trans hx)).at_ hxk
      have hzx := Z3.out x (mem_of_get hxk)
      clear hxk
      obtain ⟨-, p0, p1, p2, p3⟩ := FX.out wr hx
      obtain ⟨Wx, hWx⟩ : ∃ Wx, wr.alloc (.cells #[.int .i64 x.w, .slice A5 x.bs.length k5] 37) = Wx := ⟨_, rfl⟩
      have hxx : Ext wr Wx := by rw [← hWx]; exact Ext.alloc (Ext.refl _) _
      obtain ⟨Bx, hBx⟩ : ∃ Bx, wr.heap.size = Bx := ⟨_, rfl⟩
      have FQ : Hid (∀ w', Ext Wx w' → w'.cell? ⟨Bx, 0, none⟩ = some (.int .i64 x.w) ∧ w'.cell? ⟨Bx, 1, none⟩ = some (.slice A5 x.bs.length k5) ∧ w'.cell? ⟨w.heap.size + 1, 3, none⟩ = some (.slice (some ⟨b2, o2, none⟩) c.cl.length c4) ∧ w'.cell? ⟨b2, o2 + k * 2, none⟩ = some (.int .i64 x.w) ∧ w'.cell? ⟨b2, o2 + k * 2 + 1, none⟩ = some (.slice A6 x.bs.length k6) ∧ True) := fun w' h =>
        ⟨h.cell (by rw [← hBx, ← hWx]; simp [go_sem]), h.cell (by rw [← hBx, ← hWx]; simp [go_sem]), h.cell (hxx.cell p3), h.cell (hxx.cell g2), h.cell (hxx.cell g3), trivial⟩
      have hB5 := hB5.ext hxx
      have hB6 := hB6.ext hxx
      have hxn := hx.trans hxx
      have hn3 : (x.w != x.w) = false := by simp
      clear p0 p1 p2 p3
      go_wp2
      try rw [hWx]
      try rw [hBx]
      clear hWx hBx g0 g1 g2 g3
      refine wp_region_shut Ext (fun w' => Ext Wx w') (fun | 18 => some (fun v _ => v = .bool true) | _ => none) (by kernel_rfl) (by kernel_rfl) (fun _ _ h k => h.trans k) ?hT (Ext.drew (Ext.refl Wx)) ?_
      case hT =>
        intro i R hR
        match i, hR with
        | 18, hR => cases hR; exact fun _ _ _ h _ => h
      refine wM_val ?ua0 rfl rfl Ext.refl (fun w' hD => ?ha0) (fun pha0 => ?na0)
      case ha0 =>
        obtain ⟨d0, d1, d2, d3, d4, d5⟩ := FQ.out _ hD.1
        go_simp; rfl
      simp only [Act.put, List.setIfInBounds_toArray, List.set_cons_succ, List.set_cons_zero, Nat.reduceAdd]
      refine wM_val ?ua1 rfl rfl Ext.refl (fun w' hD => ?ha1) (fun pha1 => ?na1)
      case ha1 =>
        obtain ⟨d0, d1, d2, d3, d4, d5⟩ := FQ.out _ hD.1
        go_simp; rfl
      simp only [Act.put, List.setIfInBounds_toArray, List.set_cons_succ, List.set_cons_zero, Nat.reduceAdd]
      refine wM_val ?ua2 rfl rfl Ext.refl (fun w' hD => ?ha2) (fun pha2 => ?na2)
      case ha2 =>
        obtain ⟨d0, d1, d2, d3, d4, d5⟩ := FQ.out _ hD.1
        go_simp; rfl
      simp only [Act.put, List.setIfInBounds_toArray, List.set_cons_succ, List.set_cons_zero, Nat.reduceAdd]
      refine wM_val ?ua3 rfl rfl Ext.refl (fun w' hD => ?ha3) (fun pha3 => ?na3)
      case ha3 =>
        obtain ⟨d0, d1, d2, d3, d4, d5⟩ := FQ.out _ hD.1
        go_simp; rfl
      simp only [Act.put, List.setIfInBounds_toArray, List.set_cons_succ, List.set_cons_zero, Nat.reduceAdd]
      refine wM_val ?ua4 rfl rfl Ext.refl (fun w' hD => ?ha4) (fun pha4 => ?na4)
      case ha4 =>
        obtain ⟨d0, d1, d2, d3, d4, d5⟩ := FQ.out _ hD.1
        go_simp; rfl
      simp only [Act.put, List.setIfInBounds_toArray, List.set_cons_succ, List.set_cons_zero, Nat.reduceAdd]
      refine wM_val ?ua5 rfl rfl Ext.refl (fun w' hD => ?ha5) (fun pha5 => ?na5)
      case ha5 =>
        obtain ⟨d0, d1, d2, d3, d4, d5⟩ := FQ.out _ hD.1
        go_simp; rfl
      simp only [Act.put, List.setIfInBounds_toArray, List.set_cons_succ, List.set_cons_zero, Nat.reduceAdd]
      refine wM_val ?ua6 rfl rfl Ext.refl (fun w' hD => ?ha6) (fun pha6 => ?na6)
      case ha6 =>
        obtain ⟨d0, d1, d2, d3, d4, d5⟩ := FQ.out _ hD.1
        go_simp; rfl
      simp only [Act.put, List.setIfInBounds_toArray, List.set_cons_succ, List.set_cons_zero, Nat.reduceAdd]
      refine wM_val ?ua7 rfl rfl Ext.refl (fun w' hD => ?ha7) (fun pha7 => ?na7)
      case ha7 =>
        obtain ⟨d0, d1, d2, d3, d4, d5⟩ := FQ.out _ hD.1
        go_simp; rfl
      simp only [Act.put, List.setIfInBounds_toArray, List.set_cons_succ, List.set_cons_zero, Nat.reduceAdd]
      refine wM_val ?ua8 rfl rfl Ext.refl (fun w' hD => ?ha8) (fun pha8 => ?na8)
      case ha8 =>
        obtain ⟨d0, d1, d2, d3, d4, d5⟩ := FQ.out _ hD.1
        go_simp; rfl
      simp only [Act.put, List.setIfInBounds_toArray, List.set_cons_succ, List.set_cons_zero, Nat.reduceAdd]
      refine wM_val ?ua9 rfl rfl Ext.refl (fun w' hD => ?ha9) (fun pha9 => ?na9)
      case ha9 =>
        obtain ⟨d0, d1, d2, d3, d4, d5⟩ := FQ.out _ hD.1
        go_simp; rfl
      simp only [Act.put, List.setIfInBounds_toArray, List.set_cons_succ, List.set_cons_zero, Nat.reduceAdd]
      refine wM_val ?ua10 rfl rfl Ext.refl (fun w' hD => ?ha10) (fun pha10 => ?na10)
      case ha10 =>
        obtain ⟨d0, d1, d2, d3, d4, d5⟩ := FQ.out _ hD.1
        go_simp; rfl
      simp only [Act.put, List.setIfInBounds_toArray, List.set_cons_succ, List.set_cons_zero, Nat.reduceAdd]
      refine wM_val ?ua11 rfl rfl Ext.refl (fun w' hD => ?ha11) (fun pha11 => ?na11)
      case ha11 =>
        obtain ⟨d0, d1, d2, d3, d4, d5⟩ := FQ.out _ hD.1
        go_simp; rfl
      simp only [Act.put, List.setIfInBounds_toArray, List.set_cons_succ, List.set_cons_zero, Nat.reduceAdd]
      refine wM_val ?ua12 rfl rfl Ext.refl (fun w' hD => ?ha12) (fun pha12 => ?na12)
      case ha12 =>
        obtain ⟨d0, d1, d2, d3, d4, d5⟩ := FQ.out _ hD.1
        go_simp; rfl
      simp only [Act.put, List.setIfInBounds_toArray, List.set_cons_succ, List.set_cons_zero, Nat.reduceAdd]
      refine wM_val ?ua13 rfl rfl Ext.refl (fun w' hD => ?ha13) (fun pha13 => ?na13)
      case ha13 =>
        obtain ⟨d0, d1, d2, d3, d4, d5⟩ := FQ.out _ hD.1
        go_simp; rfl
      simp only [Act.put, List.setIfInBounds_toArray, List.set_cons_succ, List.set_cons_zero, Nat.reduceAdd]
      refine wM_val ?ua14 rfl rfl Ext.refl (fun w' hD => ?ha14) (fun pha14 => ?na14)
      case ha14 =>
        obtain ⟨d0, d1, d2, d3, d4, d5⟩ := FQ.out _ hD.1
        go_simp; rfl
      simp only [Act.put, List.setIfInBounds_toArray, List.set_cons_succ, List.set_cons_zero, Nat.reduceAdd]
      refine wM_val ?ua15 rfl rfl Ext.refl (fun w' hD => ?ha15) (fun pha15 => ?na15)
      case ha15 =>
        obtain ⟨d0, d1, d2, d3, d4, d5⟩ := FQ.out _ hD.1
        go_simp; rfl
      simp only [Act.put, List.setIfInBounds_toArray, List.set_cons_succ, List.set_cons_zero, Nat.reduceAdd]
      refine wM_val ?ua16 rfl rfl Ext.refl (fun w' hD => ?ha16) (fun pha16 => ?na16)
      case ha16 =>
        obtain ⟨d0, d1, d2, d3, d4, d5⟩ := FQ.out _ hD.1
        go_simp; rfl
      simp only [Act.put, List.setIfInBounds_toArray, List.set_cons_succ, List.set_cons_zero, Nat.reduceAdd]
      refine wM_val ?ua17 rfl rfl Ext.refl (fun w' hD => ?ha17) (fun pha17 => ?na17)
      case ha17 =>
        obtain ⟨d0, d1, d2, d3, d4, d5⟩ := FQ.out _ hD.1
        go_simp; rfl
      simp only [Act.put, List.setIfInBounds_toArray, List.set_cons_succ, List.set_cons_zero, Nat.reduceAdd]
      refine wM_op _ rfl rfl (opens_call ?fa18 ?ga18 (fun w' hD => ?ha18) (fun w' hD => ?ca18)) (fun v18 hv18 => ?na18)
      case ha18 => go_simp; constructor <;> rfl
      case ca18 =>
        refine (eq_wbd A5 A6 k5 k6 x.bs w' (hB5.ext hD.1) (hB6.ext hD.1) hzx).mono ?_
        rintro e w2 ⟨rfl, hb⟩
        exact ⟨_, rfl, hb, rfl⟩
      obtain ⟨_, -, -, rfl⟩ := hv18
      simp only [Act.put, List.setIfInBounds_toArray, List.set_cons_succ, List.set_cons_zero, Nat.reduceAdd]
      refine wM_val ?ua19 rfl rfl Ext.refl (fun w' hD => ?ha19) (fun pha19 => ?na19)
      case ha19 =>
        obtain ⟨d0, d1, d2, d3, d4, d5⟩ := FQ.out _ hD.1
        go_simp; rfl
      simp only [Act.put, List.setIfInBounds_toArray, List.set_cons_succ, List.set_cons_zero, Nat.reduceAdd]
      refine wM_val ?ua20 rfl rfl Ext.refl (fun w' hD => ?ha20) (fun pha20 => ?na20)
      case ha20 =>
        obtain ⟨d0, d1, d2, d3, d4, d5⟩ := FQ.out _ hD.1
        go_simp; rfl
      simp only [Act.put, List.setIfInBounds_toArray, List.set_cons_succ, List.set_cons_zero, Nat.reduceAdd]
      refine wM_nil ?_
      intro w9 hw9 hF9
      clear hF9 FQ
      go_wp2
      go_roundw
      case rel => exact ⟨k + 1, by omega, by go_num, hxn.trans hw9⟩
      case measure => simp [intOf]; omega
    · have hlt' : ¬ (k : Int) < (c.cl.length : Int) := by omega
      go_wp2
      go_ret
      exact ⟨rfl, hx1.trans hx⟩
end Go.Proofs.Ytgnjhaomlbkgcaa

namespace Go.Proofs.Ytgnjhaomlbkgcaa
open Go Go.RowKit
set_option linter.unusedVariables false
set_option linter.unusedSimpArgs false

/-- A list without repeats of numbers below m has m at most. -/
theorem nodup_short : ∀ (m : Nat) (l : List Int), l.Nodup → (∀ i ∈ l, 0 ≤ i ∧ i < (m : Int)) → l.length ≤ m
  | 0, [], _, _ => Nat.le_refl _
  | 0, x :: r, _, h => by have := h x (by simp); omega
  | m + 1, l, hn, h => by
    have h1 := nodup_short m (l.erase (m : Int)) (hn.erase _) (fun i hi => by
      obtain ⟨hne, hm⟩ := hn.mem_erase_iff.1 hi
      have := h i hm
      omega)
    have h2 : l.length ≤ (l.erase (m : Int)).length + 1 := by
      rw [List.length_erase]
      split <;> omega
    omega

theorem showsOf_ring {c : Cs} (h0 : checkC c = 0) {ring : List Int} (hR : RingOK c.all ring) : ∃ (i : Nat) (b : Bd) (n : Int), ring[0]? = some (i : Int) ∧ c.all[i]? = some b ∧ i < c.all.length ∧ n < 0 ∧ showsOf c b.f b.f ring = (n, 0) := by
  obtain ⟨i, b, n, h1, h2, h3, h4⟩ := hR.round
  have hi : i < c.all.length := (List.getElem?_eq_some_iff.1 h2).1
  refine ⟨i, b, n, h1, h2, hi, h3, ?_⟩
  have hev := (checkC_ok h0).2.2.1
  simp only [evOK, List.all_eq_true, Bool.and_eq_true] at hev
  have hb := (hev b (mem_of_get h2)).1
  have hlen := nodup_short c.all.length ring hR.nodup hR.in_
  have hall : (ring.all fun i => inB i 0 ((c.all.length : Int) - 1)) = true := by
    rw [List.all_eq_true]
    intro x hx
    have := hR.in_ x hx
    exact inB_iff.2 ⟨by omega, by omega⟩
  unfold showsOf
  rw [if_neg (by simp [h0]), if_neg (by simp [hb]), if_neg (by omega), if_neg (by simp [hall]), h4]
  simp

set_option maxRecDepth 100000 in
set_option maxHeartbeats 4000000 in
theorem round_any (v : Value) (c : Cs) (A : Option Addr) (k : Nat) (ring : List Int) (w : World) (hc : CsR w v c) (hs : c.sized) (hA : Ints w A ring) (h0 : checkC c = 0) (hR : RingOK c.all ring) :
    Calls Try.prog 42 #[v, .slice A ring.length k] w fun e w' => e = .returned (.bool true) ∧ Ext w w' := by
  have hc' := hc
  obtain ⟨A1, c1, A2, c2, rfl, hB, hC⟩ := hc
  obtain ⟨i, b, n, g1, g2, g3, g4, g5⟩ := showsOf_ring h0 hR
  have r2 := hR.two
  have r8 := hR.len
  have r3 := hR.in_
  have r4 := hR.nodup
  obtain ⟨z1, z2⟩ := sized_all h0
  have h52 := checkC_52 h0
  obtain ⟨W0, hW0⟩ : ∃ W0, w.alloc (.cells #[.int .i64 c.ev, .slice A1 c.bs.length c1, .int .i64 c.wi, .slice A2 c.cl.length c2] 72) = W0 := ⟨_, rfl⟩
  have hx0 : Ext w W0 := by rw [← hW0]; exact Ext.alloc (Ext.refl w) _
  have FX : Hid (∀ w', Ext W0 w' → w'.cell? ⟨w.heap.size, 0, none⟩ = some (.int .i64 c.ev) ∧ w'.cell? ⟨w.heap.size, 1, none⟩ = some (.slice A1 c.bs.length c1) ∧ w'.cell? ⟨w.heap.size, 2, none⟩ = some (.int .i64 c.wi) ∧ w'.cell? ⟨w.heap.size, 3, none⟩ = some (.slice A2 c.cl.length c2)) := fun w' h => ⟨h.cell (by rw [← hW0]; simp [go_sem]), h.cell (by rw [← hW0]; simp [go_sem]), h.cell (by rw [← hW0]; simp [go_sem]), h.cell (by rw [← hW0]; simp [go_sem])⟩
  obtain ⟨q0, q1, q2, q3⟩ := FX.out W0 (Ext.refl _)
  have K1 := refall_any _ c W0 (hc'.ext hx0) z1 hs
  have K2 := fun w' (h : Ext W0 w') => refshows_any _ c b.f b.f A k ring w' (hc'.ext (hx0.trans h)) hs (hA.ext (hx0.trans h)) (by omega)
  rw [g5] at K2
  have K3 := fun w' (h : Ext W0 w') => twice_any A k ring w' (hA.ext (hx0.trans h)) (by omega) r4 (fun x hx => by have := r3 x hx; omega)
  have HK2 := hid K2
  have HK3 := hid K3
  have HA0 : Hid (∀ w', Ext W0 w' → ∃ bb o, A = some ⟨bb, o, none⟩ ∧ w'.cell? ⟨bb, o, none⟩ = some (.int .i64 (i : Int))) := fun w' h => by
    obtain ⟨bb, o, e, hcell⟩ := (hA.ext (hx0.trans h)).at_ g1
    exact ⟨bb, o, e, by simpa using hcell⟩
  have HB0 : Hid (∀ (A' : Option Addr) (w' : World), Bounds w' A' c.all → ∃ b2 o2, A' = some ⟨b2, o2, none⟩ ∧ w'.cell? ⟨b2, o2 + i * 3, none⟩ = some (.int .i64 b.f)) := fun A' w' h => by
    obtain ⟨b2, o2, e, d1, _, _⟩ := h.at_ g2
    exact ⟨b2, o2, e, d1⟩
  have l1 : ((ring.length : Int) == 0) = false := by rw [beq_eq_false_iff_ne]; omega
  have l4 : ¬ (i : Int) < 0 := by omega
  have l5 : (i : Int) < (c.all.length : Int) := by omega
  have l6 : ¬ (c.all.length : Int) ≤ (i : Int) := by omega
  have l7 : (0 : Int) < (ring.length : Int) := by omega
  clear K2 K3 g5 g1 g2 r3 r4 hR h0 hA hB hC
  go_enter Try.func42, Try.ntmps42
  go_wp2_with fail
  clear hW0 q0 q1 q2 q3
  refine K1.mono ?_
  rintro e w1 ⟨A', c', rfl, ho, hb1⟩
  have hBo : Bounds w1 A' c.all := Rd.of_own ho
  obtain ⟨q0, q1, q2, q3⟩ := FX.out w1 hb1
  obtain ⟨ab, ao, rfl, a0⟩ := HA0.out w1 hb1
  obtain ⟨bb, bo, rfl, b0⟩ := HB0.out A' w1 hBo
  have K2 := HK2.out w1 hb1
  clear ho hBo K1 HA0 HB0 HK2
  go_wp2_with fail
  refine K2.mono ?_
  rintro e w2 ⟨rfl, hb2⟩
  have K3 := HK3.out w2 (hb1.trans hb2)
  clear q0 q1 q2 q3 a0 b0 K2 HK3
  go_wp2_with fail
  refine K3.mono ?_
  rintro e w3 ⟨rfl, hb3⟩
  go_wp2
  go_ret
  exact ⟨rfl, hx0.trans (hb1.trans (hb2.trans hb3))⟩
end Go.Proofs.Ytgnjhaomlbkgcaa

namespace Go.Proofs.Ytgnjhaomlbkgcaa
open Go Go.RowKit
set_option linter.unusedVariables false
set_option linter.unusedSimpArgs false

set_option maxRecDepth 100000 in
set_option maxHeartbeats 2000000 in
theorem refclash_any (v : Value) (c : Cs) (A : Option Addr) (kb : Nat) (bel : List Bool) (w : World) (hc : CsR w v c) (hs : c.sized) (h0 : checkC c = 0) (hA : Bools w A bel) (hbl : bel.length = c.wi.toNat) :
    Calls Try.prog 40 #[v, .slice A bel.length kb] w fun e w' => e = .returned (.bool (clashR (belT bel) c)) ∧ Ext w w' := by
  have hc' := hc
  obtain ⟨A1, c1, A2, c2, rfl, hB, hC⟩ := hc
  obtain ⟨ev1, ev8⟩ := checkC_ev h0
  have H0 := hid h0
  have HBL := hid hbl
  obtain ⟨N, hN⟩ : ∃ N : Nat, c.ev = N := ⟨c.ev.toNat, by omega⟩
  have HN := hid hN
  have HTN : Hid (c.ev.toNat = N) := by unfold Hid; omega
  obtain ⟨R, hR⟩ : ∃ R, clashR (belT bel) c = R := ⟨_, rfl⟩
  have HR := hid hR
  rw [hR]
  obtain ⟨W0, hW0⟩ : ∃ W0, w.alloc (.cells #[.int .i64 c.ev, .slice A1 c.bs.length c1, .int .i64 c.wi, .slice A2 c.cl.length c2] 72) = W0 := ⟨_, rfl⟩
  have hx0 : Ext w W0 := by rw [← hW0]; exact Ext.alloc (Ext.refl w) _
  have FX : Hid (∀ w', Ext W0 w' → w'.cell? ⟨w.heap.size, 0, none⟩ = some (.int .i64 c.ev) ∧ w'.cell? ⟨w.heap.size, 1, none⟩ = some (.slice A1 c.bs.length c1) ∧ w'.cell? ⟨w.heap.size, 2, none⟩ = some (.int .i64 c.wi) ∧ w'.cell? ⟨w.heap.size, 3, none⟩ = some (.slice A2 c.cl.length c2)) := fun w' h => ⟨h.cell (by rw [← hW0]; simp [go_sem]), h.cell (by rw [← hW0]; simp [go_sem]), h.cell (by rw [← hW0]; simp [go_sem]), h.cell (by rw [← hW0]; simp [go_sem])⟩
  obtain ⟨q0, q1, q2, q3⟩ := FX.out W0 (Ext.refl _)
  clear hR hN h0 hbl
  go_enter Try.func40, Try.ntmps40
  go_wp2
  clear hW0 q0 q1 q2 q3
  go_loopw [5] (fun i wr => ∃ a : Nat, i = .int .i64 (a : Int) ∧ a ≤ N ∧ Ext W0 wr ∧ Hid (∀ x, x < a → (gapsR (belT bel) c x).2 = true)) (fun i _ => N - (intOf i).toNat)
  case atStart => exact ⟨0, rfl, by omega, Ext.refl _, fun x hx => absurd hx (by omega)⟩
  case round =>
    obtain ⟨a, rfl, ha, hx, HQ⟩ := hrel
    obtain ⟨q0, q1, q2, q3⟩ := FX.out wr hx
    by_cases hlt : a < N
    · have hlt' : (a : Int) < c.ev := by rw [HN.out]; omega
      have K := refgaps_any _ c A kb bel a wr (hc'.ext (hx0.trans hx)) hs H0.out (hA.ext (hx0.trans hx)) HBL.out hlt'
      have HK := hid K
      clear K
      go_wp2_with fail
      clear q0 q1 q2 q3
      refine HK.out.mono ?_
      clear HK
      rintro e w1 ⟨g1, g2, rfl, -, -, h1, -, -⟩
      cases hq : (gapsR (belT bel) c a).2
      · have HE : Hid (R = true) := by
          unfold Hid
          rw [← HR.out]
          unfold clashR
          rw [List.any_eq_true]
          exact ⟨a, by rw [HTN.out]; simpa using hlt, by rw [hq]; rfl⟩
        go_wp2
        go_ret
        exact ⟨ret_of (bool_of HE.out.symm), (hx0.trans hx).trans h1⟩
      · have HQ2 : Hid (∀ x, x < a + 1 → (gapsR (belT bel) c x).2 = true) := fun x hx => by
          by_cases e : x = a
          · rw [e]; exact hq
          · exact HQ.out x (by omega)
        go_wp2
        go_roundw
        case rel => exact ⟨a + 1, by go_num, by omega, hx.trans h1, HQ2⟩
        case measure => simp [intOf]; omega
    · have hlt' : ¬ (a : Int) < c.ev := by rw [HN.out]; omega
      have HE : Hid (R = false) := by
        unfold Hid
        rw [← HR.out]
        unfold clashR
        rw [List.any_eq_false]
        intro x hx
        rw [HTN.out] at hx
        rw [HQ.out x (by have := List.mem_range.1 hx; omega)]
        simp
      go_wp2
      go_ret
      exact ⟨ret_of (bool_of HE.out.symm), hx0.trans hx⟩

set_option maxRecDepth 100000 in
set_option maxHeartbeats 2000000 in
theorem refgap_any (v : Value) (c : Cs) (A : Option Addr) (kb : Nat) (bel : List Bool) (a b : Nat) (w : World) (hc : CsR w v c) (hs : c.sized) (h0 : checkC c = 0) (hA : Bools w A bel) (hbl : bel.length = c.wi.toNat) (ha : (a : Int) < c.ev) (hb : (b : Int) < c.ev) :
    Calls Try.prog 46 #[v, .slice A bel.length kb, .int .i64 (a : Int), .int .i64 (b : Int)] w fun e w' => e = .returned (.tuple #[.int .i64 (gapR (belT bel) c a b).1, .bool (gapR (belT bel) c a b).2]) ∧ Ext w w' := by
  have hc' := hc
  obtain ⟨A1, c1, A2, c2, rfl, hB, hC⟩ := hc
  obtain ⟨W0, hW0⟩ : ∃ W0, w.alloc (.cells #[.int .i64 c.ev, .slice A1 c.bs.length c1, .int .i64 c.wi, .slice A2 c.cl.length c2] 72) = W0 := ⟨_, rfl⟩
  have hx0 : Ext w W0 := by rw [← hW0]; exact Ext.alloc (Ext.refl w) _
  have FX : Hid (∀ w', Ext W0 w' → w'.cell? ⟨w.heap.size, 0, none⟩ = some (.int .i64 c.ev) ∧ w'.cell? ⟨w.heap.size, 1, none⟩ = some (.slice A1 c.bs.length c1) ∧ w'.cell? ⟨w.heap.size, 2, none⟩ = some (.int .i64 c.wi) ∧ w'.cell? ⟨w.heap.size, 3, none⟩ = some (.slice A2 c.cl.length c2)) := fun w' h => ⟨h.cell (by rw [← hW0]; simp [go_sem]), h.cell (by rw [← hW0]; simp [go_sem]), h.cell (by rw [← hW0]; simp [go_sem]), h.cell (by rw [← hW0]; simp [go_sem])⟩
  obtain ⟨q0, q1, q2, q3⟩ := FX.out W0 (Ext.refl _)
  have K := refgaps_any _ c A kb bel a W0 (hc'.ext hx0) hs h0 (hA.ext hx0) hbl ha
  obtain ⟨N, hN⟩ : ∃ N : Nat, c.ev.toNat = N := ⟨_, rfl⟩
  have hbN : b < N := by omega
  rw [hN] at K
  obtain ⟨R, hR⟩ : ∃ R, gapsR (belT bel) c a = R := ⟨_, rfl⟩
  have HG : Hid (gapR (belT bel) c a b = (R.1.sm b, R.1.is b)) := by unfold Hid gapR; rw [hR]
  rw [hR] at K
  rw [HG.out]
  have HK := hid K
  have hbN' : (b : Int) < (N : Int) := by omega
  clear K hN hR hB hC ha hb hbl h0
  go_enter Try.func46, Try.ntmps46
  go_wp2_with fail
  clear hW0 q0 q1 q2 q3
  refine HK.out.mono ?_
  clear HK
  rintro e w1 ⟨g1, g2, rfl, hI, hJ, h1, -, -⟩
  have k1 := (hI b hbN).1
  have k2 := (hJ b hbN).1
  clear hI hJ
  go_wp2
  go_quiet (fail)
  go_wp2
  go_ret2
  exact ⟨rfl, (hx0.trans h1).drewN _⟩

def yesR (tf : Int → Bool) (c : Cs) (a b : Nat) : Bool := (gapR tf c b a).2 && decide ((gapR tf c b a).1 ≤ -1)
def noR (tf : Int → Bool) (c : Cs) (a b : Nat) : Bool := (gapR tf c a b).2 && decide ((gapR tf c a b).1 < 1)

set_option maxRecDepth 100000 in
set_option maxHeartbeats 2000000 in
theorem refyes_any (v : Value) (c : Cs) (A : Option Addr) (kb : Nat) (bel : List Bool) (a b : Nat) (w : World) (hc : CsR w v c) (hs : c.sized) (h0 : checkC c = 0) (hA : Bools w A bel) (hbl : bel.length = c.wi.toNat) (ha : (a : Int) < c.ev) (hb : (b : Int) < c.ev) :
    Calls Try.prog 48 #[v, .slice A bel.length kb, .int .i64 (a : Int), .int .i64 (b : Int)] w fun e w' => e = .returned (.bool (yesR (belT bel) c a b)) ∧ Ext w w' := by
  have hc' := hc
  obtain ⟨A1, c1, A2, c2, rfl, hB, hC⟩ := hc
  obtain ⟨W0, hW0⟩ : ∃ W0, w.alloc (.cells #[.int .i64 c.ev, .slice A1 c.bs.length c1, .int .i64 c.wi, .slice A2 c.cl.length c2] 72) = W0 := ⟨_, rfl⟩
  have hx0 : Ext w W0 := by rw [← hW0]; exact Ext.alloc (Ext.refl w) _
  have FX : Hid (∀ w', Ext W0 w' → w'.cell? ⟨w.heap.size, 0, none⟩ = some (.int .i64 c.ev) ∧ w'.cell? ⟨w.heap.size, 1, none⟩ = some (.slice A1 c.bs.length c1) ∧ w'.cell? ⟨w.heap.size, 2, none⟩ = some (.int .i64 c.wi) ∧ w'.cell? ⟨w.heap.size, 3, none⟩ = some (.slice A2 c.cl.length c2)) := fun w' h => ⟨h.cell (by rw [← hW0]; simp [go_sem]), h.cell (by rw [← hW0]; simp [go_sem]), h.cell (by rw [← hW0]; simp [go_sem]), h.cell (by rw [← hW0]; simp [go_sem])⟩
  obtain ⟨q0, q1, q2, q3⟩ := FX.out W0 (Ext.refl _)
  have K := refgap_any _ c A kb bel b a W0 (hc'.ext hx0) hs h0 (hA.ext hx0) hbl hb ha
  obtain ⟨g, hg⟩ : ∃ g, (gapR (belT bel) c b a).1 = g := ⟨_, rfl⟩
  obtain ⟨i, hi⟩ : ∃ i, (gapR (belT bel) c b a).2 = i := ⟨_, rfl⟩
  have HG : Hid (yesR (belT bel) c a b = (i && decide (g ≤ -1))) := by unfold Hid yesR; rw [hg, hi]
  rw [hg, hi] at K
  rw [HG.out]
  have HK := hid K
  clear K hg hi hB hC ha hb hbl h0
  go_enter Try.func48, Try.ntmps48
  go_wp2_with fail
  clear hW0 q0 q1 q2 q3
  refine HK.out.mono ?_
  clear HK
  rintro e w1 ⟨rfl, h1⟩
  cases i
  · go_wp2
    go_ret
    exact ⟨rfl, hx0.trans h1⟩
  · go_wp2
    go_ret
    exact ⟨ret_of (by simp), hx0.trans h1⟩

set_option maxRecDepth 100000 in
set_option maxHeartbeats 2000000 in
theorem refno_any (v : Value) (c : Cs) (A : Option Addr) (kb : Nat) (bel : List Bool) (a b : Nat) (w : World) (hc : CsR w v c) (hs : c.sized) (h0 : checkC c = 0) (hA : Bools w A bel) (hbl : bel.length = c.wi.toNat) (ha : (a : Int) < c.ev) (hb : (b : Int) < c.ev) :
    Calls Try.prog 47 #[v, .slice A bel.length kb, .int .i64 (a : Int), .int .i64 (b : Int)] w fun e w' => e = .returned (.bool (noR (belT bel) c a b)) ∧ Ext w w' := by
  have hc' := hc
  obtain ⟨A1, c1, A2, c2, rfl, hB, hC⟩ := hc
  obtain ⟨W0, hW0⟩ : ∃ W0, w.alloc (.cells #[.int .i64 c.ev, .slice A1 c.bs.length c1, .int .i64 c.wi, .slice A2 c.cl.length c2] 72) = W0 := ⟨_, rfl⟩
  have hx0 : Ext w W0 := by rw [← hW0]; exact Ext.alloc (Ext.refl w) _
  have FX : Hid (∀ w', Ext W0 w' → w'.cell? ⟨w.heap.size, 0, none⟩ = some (.int .i64 c.ev) ∧ w'.cell? ⟨w.heap.size, 1, none⟩ = some (.slice A1 c.bs.length c1) ∧ w'.cell? ⟨w.heap.size, 2, none⟩ = some (.int .i64 c.wi) ∧ w'.cell? ⟨w.heap.size, 3, none⟩ = some (.slice A2 c.cl.length c2)) := fun w' h => ⟨h.cell (by rw [← hW0]; simp [go_sem]), h.cell (by rw [← hW0]; simp [go_sem]), h.cell (by rw [← hW0]; simp [go_sem]), h.cell (by rw [← hW0]; simp [go_sem])⟩
  obtain ⟨q0, q1, q2, q3⟩ := FX.out W0 (Ext.refl _)
  have K := refgap_any _ c A kb bel a b W0 (hc'.ext hx0) hs h0 (hA.ext hx0) hbl ha hb
  obtain ⟨g, hg⟩ : ∃ g, (gapR (belT bel) c a b).1 = g := ⟨_, rfl⟩
  obtain ⟨i, hi⟩ : ∃ i, (gapR (belT bel) c a b).2 = i := ⟨_, rfl⟩
  have HG : Hid (noR (belT bel) c a b = (i && decide (g < 1))) := by unfold Hid noR; rw [hg, hi]
  rw [hg, hi] at K
  rw [HG.out]
  have HK := hid K
  clear K hg hi hB hC ha hb hbl h0
  go_enter Try.func47, Try.ntmps47
  go_wp2_with fail
  clear hW0 q0 q1 q2 q3
  refine HK.out.mono ?_
  clear HK
  rintro e w1 ⟨rfl, h1⟩
  cases i
  · go_wp2
    go_ret
    exact ⟨rfl, hx0.trans h1⟩
  · go_wp2
    go_ret
    exact ⟨ret_of (by simp), hx0.trans h1⟩

theorem belT_all (c : Cs) (h0 : checkC c = 0) : clashR (belT (rl c.wi.toNat fun _ => true)) c = clashM (gapsM allT c) := by
  rw [clashR_is h0]
  congr 1
  refine gaps_congr fun x hx => ?_
  have := wits h0 x hx
  unfold belT allT
  rw [List.getD_eq_getElem?_getD, rl_get _ (by omega)]
  rfl

set_option maxRecDepth 100000 in
set_option maxHeartbeats 2000000 in
theorem refasked_any (v : Value) (c : Cs) (a b : Int) (w : World) (hc : CsR w v c) (hs : c.sized) :
    Calls Try.prog 43 #[v, .int .i64 a, .int .i64 b] w fun e w' => e = .returned (.int .i64 (askedC c [a, b])) ∧ Ext w w' := by
  have hc' := hc
  obtain ⟨A1, c1, A2, c2, rfl, hB, hC⟩ := hc
  have HF : Hid (askedC c [a, b] = if checkC c = 0 then (if inB a 0 (c.ev - 1) && inB b 0 (c.ev - 1) then toldC c else 1) else checkC c) := by unfold Hid askedC; simp
  obtain ⟨R, hR⟩ : ∃ R, askedC c [a, b] = R := ⟨_, rfl⟩
  rw [hR] at HF ⊢
  clear hR
  obtain ⟨W0, hW0⟩ : ∃ W0, w.alloc (.cells #[.int .i64 c.ev, .slice A1 c.bs.length c1, .int .i64 c.wi, .slice A2 c.cl.length c2] 72) = W0 := ⟨_, rfl⟩
  have hx0 : Ext w W0 := by rw [← hW0]; exact Ext.alloc (Ext.refl w) _
  have FX : Hid (∀ w', Ext W0 w' → w'.cell? ⟨w.heap.size, 0, none⟩ = some (.int .i64 c.ev) ∧ w'.cell? ⟨w.heap.size, 1, none⟩ = some (.slice A1 c.bs.length c1) ∧ w'.cell? ⟨w.heap.size, 2, none⟩ = some (.int .i64 c.wi) ∧ w'.cell? ⟨w.heap.size, 3, none⟩ = some (.slice A2 c.cl.length c2)) := fun w' h => ⟨h.cell (by rw [← hW0]; simp [go_sem]), h.cell (by rw [← hW0]; simp [go_sem]), h.cell (by rw [← hW0]; simp [go_sem]), h.cell (by rw [← hW0]; simp [go_sem])⟩
  obtain ⟨q0, q1, q2, q3⟩ := FX.out W0 (Ext.refl _)
  go_enter Try.func43, Try.ntmps43
  go_wp2_with fail
  clear hW0 q0 q1 q2 q3
  refine (refcheck_any _ c W0 (hc'.ext hx0) hs).mono ?_
  rintro e w1 ⟨rfl, hb1⟩
  have hx1 := hx0.trans hb1
  obtain ⟨q0, q1, q2, q3⟩ := FX.out w1 hb1
  by_cases h0 : checkC c = 0
  · have H0 := hid h0
    have HF2 : Hid (R = if inB a 0 (c.ev - 1) && inB b 0 (c.ev - 1) then toldC c else 1) := by unfold Hid; rw [HF.out, if_pos h0]
    obtain ⟨ev1, ev8⟩ := checkC_ev h0
    have hwi := (manyOK_parts (checkC_ok h0).1).2.2.2
    have hwi : 0 ≤ c.wi ∧ c.wi ≤ 6 := ⟨hwi.1, hwi.2.1⟩
    have hwr : IntKind.i64.wrap (c.ev - 1) = c.ev - 1 := IntWalk.i64_in _ ⟨by omega, by omega⟩
    rw [h0]
    clear h0 HF
    go_wp2_with fail
    refine (off_any _ _ _ _).mono ?_
    rintro e w2 ⟨rfl, rfl⟩
    cases hq1 : inB a 0 (c.ev - 1)
    · have HE : Hid (R = 1) := by unfold Hid; rw [HF2.out, hq1]; rfl
      go_wp2
      go_ret
      exact ⟨ret_of (int_of HE.out.symm), hx1⟩
    · go_wp2_with fail
      refine (off_any _ _ _ _).mono ?_
      rintro e w2 ⟨rfl, rfl⟩
      cases hq2 : inB b 0 (c.ev - 1)
      · have HE : Hid (R = 1) := by unfold Hid; rw [HF2.out, hq1, hq2]; rfl
        go_wp2
        go_ret
        exact ⟨ret_of (int_of HE.out.symm), hx1⟩
      · have HE : Hid (R = toldC c) := by unfold Hid; rw [HF2.out, hq1, hq2]; rfl
        clear hq1 hq2 HF2
        go_wp2
        clear q0 q1 q2 q3
        refine wp_region_shut Ext (fun w' => Ext w1 w') (fun | 2 => some (fun v w' => ∃ B, v = .slice (some ⟨B, 0, none⟩) c.wi.toNat c.wi.toNat ∧ Bools w' (some ⟨B, 0, none⟩) (rl c.wi.toNat fun _ => true)) | 3 => some (fun v _ => v = .bool (clashR (belT (rl c.wi.toNat fun _ => true)) c)) | _ => none) (by kernel_rfl) (by kernel_rfl) (fun _ _ h k => h.trans k) ?hT (Ext.drew (Ext.refl w1)) ?_
        case hT =>
          intro i R hR
          match i, hR with
          | 2, hR => cases hR; exact fun _ _ _ ⟨B, e, h⟩ k => ⟨B, e, h.ext k⟩
          | 3, hR => cases hR; exact fun _ _ _ h _ => h
        refine wM_val ?ua0 rfl rfl Ext.refl (fun w' hD => ?ha0) (fun pha0 => ?na0)
        case ha0 =>
          obtain ⟨d0, d1, d2, d3⟩ := FX.out _ (hb1.trans hD.1)
          go_simp; rfl
        simp only [Act.put, List.setIfInBounds_toArray, List.set_cons_succ, List.set_cons_zero, Nat.reduceAdd]
        refine wM_val ?ua1 rfl rfl Ext.refl (fun w' hD => ?ha1) (fun pha1 => ?na1)
        case ha1 =>
          obtain ⟨d0, d1, d2, d3⟩ := FX.out _ (hb1.trans hD.1)
          go_simp; rfl
        simp only [Act.put, List.setIfInBounds_toArray, List.set_cons_succ, List.set_cons_zero, Nat.reduceAdd]
        refine wM_op _ rfl rfl (opens_call ?fa2 ?ga2 (fun w' hD => ?ha2) (fun w' hD => ?ca2)) (fun v2 hv2 => ?na2)
        case ha2 => go_simp; constructor <;> rfl
        case ca2 =>
          refine (refevery_any _ c w' (((hc'.ext hx0).ext hb1).ext hD.1) hwi.1 hwi.2).mono ?_
          rintro e w2 ⟨B, rfl, -, hB, hb⟩
          exact ⟨_, rfl, hb, B, rfl, hB.bools⟩
        obtain ⟨_, -, -, B, rfl, -⟩ := hv2
        simp only [Act.put, List.setIfInBounds_toArray, List.set_cons_succ, List.set_cons_zero, Nat.reduceAdd]
        refine wM_op _ rfl rfl (opens_call ?fa3 ?ga3 (fun w' hD => ?ha3) (fun w' hD => ?ca3)) (fun v3 hv3 => ?na3)
        case ha3 => go_simp; constructor <;> rfl
        case ca3 =>
          obtain ⟨-, B', e9, hB9⟩ := hD.get 2 (by kernel_rfl)
          cases e9
          have K := refclash_any _ c (some ⟨B, 0, none⟩) c.wi.toNat (rl c.wi.toNat fun _ => true) w' (((hc'.ext hx0).ext hb1).ext hD.1) hs H0.out hB9 (rl_len _ _)
          rw [rl_len] at K
          refine K.mono ?_
          rintro e w2 ⟨rfl, hb⟩
          exact ⟨_, rfl, hb, rfl⟩
        obtain ⟨_, -, -, rfl⟩ := hv3
        simp only [Act.put, List.setIfInBounds_toArray, List.set_cons_succ, List.set_cons_zero, Nat.reduceAdd]
        refine wM_nil ?_
        intro w9 hw9 hF9
        have hx9 := hx1.trans hw9
        clear hF9
        rw [belT_all c H0.out]
        cases hq : clashM (gapsM allT c)
        · have HE2 : Hid (R = 0) := by unfold Hid; rw [HE.out]; unfold toldC; rw [if_pos H0.out, hq]; rfl
          go_wp2
          go_ret
          exact ⟨ret_of (int_of HE2.out.symm), hx9⟩
        · have HE2 : Hid (R = 7) := by unfold Hid; rw [HE.out]; unfold toldC; rw [if_pos H0.out, hq]; rfl
          go_wp2
          go_ret
          exact ⟨ret_of (int_of HE2.out.symm), hx9⟩
  · have HE : Hid (R = checkC c) := by unfold Hid; rw [HF.out, if_neg h0]
    have h0' : (checkC c != 0) = true := by simpa using h0
    clear HF
    obtain ⟨K, hK⟩ : ∃ K, checkC c = K := ⟨_, rfl⟩
    rw [hK] at h0' HE h0 ⊢
    clear hK
    go_wp2
    go_ret
    exact ⟨ret_of (int_of HE.out.symm), hx1⟩
end Go.Proofs.Ytgnjhaomlbkgcaa

namespace Go.Proofs.Ytgnjhaomlbkgcaa
open Go Go.RowKit
set_option linter.unusedVariables false
set_option linter.unusedSimpArgs false

theorem elem_rclaim : ElemOK Try.prog 70 149 2 32 := by
  refine ⟨Try.underlying70, ?_, by decide, by decide⟩
  have h : ((Try.prog.info? 149).bind fun i => i.zero.map fun z => (i.size, i.bytes, z.cells.size)) = some (2, 32, 2) := by kernel_rfl
  cases hi : Try.prog.info? 149 with
  | none => rw [hi] at h; cases h
  | some i =>
    rw [hi] at h
    cases hz : i.zero with
    | none => simp [hz] at h
    | some z => simp [hz] at h; exact ⟨i, z, rfl, hz, h.1, h.2.1, h.2.2⟩
/-- A block of the reference's bounds. -/
def PB (w : World) (a : Addr) : Prop := ∃ cur, w.heap[a.block]? = some (.cells cur 114 (0, 0))
/-- All blocks of the reference's bounds are as they were. -/
def KB (w w' : World) : Prop := ∀ (b : Nat) (cur : Array Value), w.heap[b]? = some (.cells cur 114 (0, 0)) → w'.heap[b]? = some (.cells cur 114 (0, 0))
theorem KB.trans {a b c : World} (h : KB a b) (k : KB b c) : KB a c := fun n cur hn => k n cur (h n cur hn)
theorem KB.ext {w w' : World} (h : Ext w w') : KB w w' := fun n cur hn => (Below.block h n (Array.getElem?_eq_some_iff.1 hn).1).trans hn
theorem KB.rd {w w' : World} (h : KB w w') {A : Option Addr} {xs : List Value} (hp : ∀ a, A = some a → PB w a) (hr : Rd w A xs) : Rd w' A xs := by
  rcases hr with h0 | ⟨b, off, rfl, hc⟩
  · exact .inl h0
  · obtain ⟨cur, hcur⟩ := hp _ rfl
    refine .inr ⟨b, off, rfl, fun j u hu => ?_⟩
    have h1 := hc j u hu
    exact (World.cell?_of_block (a := ⟨b, off + j, none⟩) ((h b cur hcur).trans hcur.symm)).trans h1
theorem KB.pb {w w' : World} (h : KB w w') {a : Addr} (hp : PB w a) : PB w' a := by
  obtain ⟨cur, hc⟩ := hp
  exact ⟨cur, h _ _ hc⟩
theorem ClP.kb {w w' : World} (h : KB w w') {xs : List Value} {l : List Cl} (hc : ClP (PB w) w xs l) : ClP (PB w') w' xs l :=
  ClP.mono (fun _ hp => h.pb hp) (hc.keep fun _ _ hA hr => h.rd hA hr)
theorem pb_own {w : World} {base n c : Nat} {A : Option Addr} {xs : List Value} (h : w.ownsRow base 114 3 (.slice A n c) n xs) : ∀ a, A = some a → PB w a := by
  intro a ha
  subst ha
  rcases h.2 with ⟨h, _⟩ | ⟨g, cap, cur, h, _, h2, _⟩
  · cases h
  · cases h; exact ⟨cur, h2⟩
theorem KB.set {w : World} {B : Nat} {cs : Array Value} {t : TypeId} (hB : w.heap[B]? = some (.cells cs t (0, 0))) (ht : t ≠ 114) (p : Addr) (hp : p.block = B) (u : Value) : KB w (w.setCell p u) := fun n cur hn => by
  have hne : n ≠ p.block := by
    rintro rfl
    rw [hp, hB] at hn
    injection hn with h1
    injection h1 with _ h2 _
    exact ht h2
  exact (heap_setCell_ne _ _ _ _ hne).trans hn
theorem grown_keep {w w' : World} {base size n b : Nat} {v : Value} {xs : List Value} {t t' : TypeId} {cur : Array Value} (ho : w.ownsRow base t size v n xs) (ht : t ≠ t') (hg : w.grownBy w' v.ownBlock) (hn : w.heap[b]? = some (.cells cur t' (0, 0))) : w'.heap[b]? = some (.cells cur t' (0, 0)) := by
  refine (hg.block b (Array.getElem?_eq_some_iff.1 hn).1 (fun e => ?_)).trans hn
  rcases ho.2 with ⟨rfl, _⟩ | ⟨g, cap, cur2, rfl, _, h2, _⟩
  · cases e
  · have : b = g := by simpa [Value.ownBlock] using e
    subst this
    rw [h2] at hn
    injection hn with h1
    injection h1 with _ h3 _
    exact ht h3
theorem KB.grown {w w' : World} {base size n : Nat} {v : Value} {xs : List Value} {t : TypeId} (ho : w.ownsRow base t size v n xs) (ht : t ≠ 114) (hg : w.grownBy w' v.ownBlock) : KB w w' := fun b cur hn => by
  refine (hg.block b (Array.getElem?_eq_some_iff.1 hn).1 (fun e => ?_)).trans hn
  rcases ho.2 with ⟨rfl, _⟩ | ⟨g, cap, cur2, rfl, _, h2, _⟩
  · cases e
  · have : b = g := by simpa [Value.ownBlock] using e
    subst this
    rw [h2] at hn
    injection hn with h1
    injection h1 with _ h3 _
    exact ht h3

/-- A case of the reference whose rows lie in blocks of their own type. -/
def TheirsCs (w : World) (v : Value) (c : Cs) : Prop :=
  ∃ A1 k1 A2 k2 xs B, v = .agg #[.int .i64 c.ev, .slice A1 c.bs.length k1, .int .i64 c.wi, .slice A2 c.cl.length k2] ∧ Bounds w A1 c.bs ∧ (∀ p, A1 = some p → PB w p) ∧
    w.ownsRow B 149 2 (.slice A2 c.cl.length k2) c.cl.length xs ∧ ClP (PB w) w xs c.cl
theorem TheirsCs.toR {w : World} {v : Value} {c : Cs} (h : TheirsCs w v c) : CsR w v c := by
  obtain ⟨A1, k1, A2, k2, xs, B, rfl, h1, _, h3, h4⟩ := h
  exact ⟨A1, k1, A2, k2, rfl, h1, xs, Rd.of_own h3, h4.toC⟩
theorem TheirsCs.ext {w w' : World} {v : Value} {c : Cs} (h : TheirsCs w v c) (hx : Ext w w') : TheirsCs w' v c := by
  obtain ⟨A1, k1, A2, k2, xs, B, rfl, h1, h2, h3, h4⟩ := h
  exact ⟨A1, k1, A2, k2, xs, B, rfl, h1.ext hx, fun p hp => (KB.ext hx).pb (h2 p hp), own_below h3 hx, h4.kb (KB.ext hx)⟩
set_option maxRecDepth 100000 in
set_option maxHeartbeats 4000000 in
theorem theirs_any (v : Value) (c : Cs) (w : World) (hc : CsR w v c) (hl1 : c.bs.length * 24 ≤ 140737488355328) (hl2 : c.cl.length * 32 ≤ 140737488355328) (hl3 : ∀ x ∈ c.cl, x.bs.length * 24 ≤ 140737488355328) :
    Calls Try.prog 37 #[v] w fun e w' => ∃ v', e = .returned v' ∧ TheirsCs w' v' c ∧ Ext w w' := by
  obtain ⟨A1, c1, A2, c2, rfl, hB, hC⟩ := hc
  have HL3 := hid hl3
  obtain ⟨W1, hW1⟩ : ∃ W1, (w.alloc (.cells #[.int .i64 c.ev, .slice A1 c.bs.length c1, .int .i64 c.wi, .slice A2 c.cl.length c2] 26)).alloc (.cells #[.int .i64 0, .slice none 0 0, .int .i64 0, .slice none 0 0] 72) = W1 := ⟨_, rfl⟩
  have hx1 : Ext w W1 := by rw [← hW1]; exact (Ext.alloc (Ext.refl w) _).alloc _
  have hz1 : W1.heap.size = w.heap.size + 2 := by rw [← hW1]; simp
  have FX : Hid (∀ w', Ext W1 w' → w'.cell? ⟨w.heap.size, 0, none⟩ = some (.int .i64 c.ev) ∧ w'.cell? ⟨w.heap.size, 1, none⟩ = some (.slice A1 c.bs.length c1) ∧ w'.cell? ⟨w.heap.size, 2, none⟩ = some (.int .i64 c.wi) ∧ w'.cell? ⟨w.heap.size, 3, none⟩ = some (.slice A2 c.cl.length c2)) := fun w' h =>
    ⟨h.cell (by rw [← hW1]; simp [go_sem]), h.cell (by rw [← hW1]; simp [go_sem]), h.cell (by rw [← hW1]; simp [go_sem]), h.cell (by rw [← hW1]; simp [go_sem])⟩
  have GR : Hid (W1.heap[w.heap.size + 1]? = some (.cells #[.int .i64 0, .slice none 0 0, .int .i64 0, .slice none 0 0] 72 (0, 0))) := by
    have h := World.alloc_heap_new (w.alloc (.cells #[.int .i64 c.ev, .slice A1 c.bs.length c1, .int .i64 c.wi, .slice A2 c.cl.length c2] 26)) (.cells #[.int .i64 0, .slice none 0 0, .int .i64 0, .slice none 0 0] 72)
    rw [hW1] at h
    unfold Hid
    simpa using h
  clear hl3
  go_enter Try.func37, Try.ntmps37
  go_wp2
  try rw [hW1]
  clear hW1
  refine wp_region_shut_tail Ext (fun w' => Ext W1 w') (fun | 4 => some (fun v w' => ∃ A' c', v = .slice A' c.bs.length c' ∧ w'.ownsRow W1.heap.size 114 3 (.slice A' c.bs.length c') c.bs.length (bcells c.bs)) | 8 => some (fun v w' => ∃ B, v = .pointer (some ⟨B, 0, none⟩) ∧ W1.heap.size ≤ B ∧ w'.heap[B]? = some (.cells #[.int .i64 0, .slice none 0 0, .int .i64 0, .slice none 0 0] 72 (0, 0))) | _ => none) 9 (by kernel_rfl) (by kernel_rfl) (fun _ _ h k => h.trans k) ?hT (Ext.drew (Ext.refl W1)) ?_
  case hT =>
    intro i R hR
    match i, hR with
    | 4, hR => cases hR; exact fun _ _ _ ⟨A', c', e, h⟩ k => ⟨A', c', e, own_below h k⟩
    | 8, hR => cases hR; exact fun _ _ _ ⟨B, e, h1, h⟩ k => ⟨B, e, h1, (Below.block k B (Array.getElem?_eq_some_iff.1 h).1).trans h⟩
  refine wM_val ?ua0 rfl rfl Ext.refl (fun w' hD => ?ha0) (fun pha0 => ?na0)
  case ha0 =>
    obtain ⟨d0, d1, d2, d3⟩ := FX.out _ hD.1
    go_simp; rfl
  simp only [Act.put, List.setIfInBounds_toArray, List.set_cons_succ, List.set_cons_zero, Nat.reduceAdd]
  refine wM_val ?ua1 rfl rfl Ext.refl (fun w' hD => ?ha1) (fun pha1 => ?na1)
  case ha1 =>
    obtain ⟨d0, d1, d2, d3⟩ := FX.out _ hD.1
    go_simp; rfl
  simp only [Act.put, List.setIfInBounds_toArray, List.set_cons_succ, List.set_cons_zero, Nat.reduceAdd]
  refine wM_val ?ua2 rfl rfl Ext.refl (fun w' hD => ?ha2) (fun pha2 => ?na2)
  case ha2 =>
    obtain ⟨d0, d1, d2, d3⟩ := FX.out _ hD.1
    go_simp; rfl
  simp only [Act.put, List.setIfInBounds_toArray, List.set_cons_succ, List.set_cons_zero, Nat.reduceAdd]
  refine wM_val ?ua3 rfl rfl Ext.refl (fun w' hD => ?ha3) (fun pha3 => ?na3)
  case ha3 =>
    obtain ⟨d0, d1, d2, d3⟩ := FX.out _ hD.1
    go_simp; rfl
  simp only [Act.put, List.setIfInBounds_toArray, List.set_cons_succ, List.set_cons_zero, Nat.reduceAdd]
  refine wM_op _ rfl rfl (opens_call ?fa4 ?ga4 (fun w' hD => ?ha4) (fun w' hD => ?ca4)) (fun v4 hv4 => ?na4)
  case ha4 => go_simp; constructor <;> rfl
  case ca4 =>
    refine (bounded_any A1 c1 c.bs w' ((hB.ext hx1).ext hD.1) hl1).mono ?_
    rintro e w2 ⟨A', c', rfl, ho, hb⟩
    exact ⟨_, rfl, hb, A', c', rfl, own_base ho hD.1.size⟩
  obtain ⟨_, -, -, Ab, cb, rfl, -⟩ := hv4
  simp only [Act.put, List.setIfInBounds_toArray, List.set_cons_succ, List.set_cons_zero, Nat.reduceAdd]
  refine wM_val ?ua5 rfl rfl Ext.refl (fun w' hD => ?ha5) (fun pha5 => ?na5)
  case ha5 =>
    obtain ⟨d0, d1, d2, d3⟩ := FX.out _ hD.1
    go_simp; rfl
  simp only [Act.put, List.setIfInBounds_toArray, List.set_cons_succ, List.set_cons_zero, Nat.reduceAdd]
  refine wM_val ?ua6 rfl rfl Ext.refl (fun w' hD => ?ha6) (fun pha6 => ?na6)
  case ha6 =>
    obtain ⟨d0, d1, d2, d3⟩ := FX.out _ hD.1
    go_simp; rfl
  simp only [Act.put, List.setIfInBounds_toArray, List.set_cons_succ, List.set_cons_zero, Nat.reduceAdd]
  refine wM_val ?ua7 rfl rfl Ext.refl (fun w' hD => ?ha7) (fun pha7 => ?na7)
  case ha7 =>
    obtain ⟨d0, d1, d2, d3⟩ := FX.out _ hD.1
    go_simp; rfl
  simp only [Act.put, List.setIfInBounds_toArray, List.set_cons_succ, List.set_cons_zero, Nat.reduceAdd]
  refine wM_op _ rfl rfl (opens_val (fun w' hD => ?ha8)) (fun va8 hva8 => ?na8)
  case ha8 =>
    refine ⟨.pointer (some ⟨w'.heap.size, 0, none⟩), w'.alloc (.cells #[.int .i64 0, .slice none 0 0, .int .i64 0, .slice none 0 0] 72), ?_, Ext.alloc (Ext.refl _) _, w'.heap.size, rfl, hD.1.size, World.alloc_heap_new _ _⟩
    go_simp
  obtain ⟨_, -, -, Bo, rfl, -⟩ := hva8
  simp only [Act.put, List.setIfInBounds_toArray, List.set_cons_succ, List.set_cons_zero, Nat.reduceAdd]
  refine wM_nil ?_
  intro w5 hw5 hF5
  obtain ⟨-, Ab', cb', e4, hob⟩ := hF5 4
  obtain ⟨-, Bo', e8, hBo, GB⟩ := hF5 8
  cases e4
  cases e8
  clear hF5
  have p0 := block_cell (i := 0) GB
  have p1 := block_cell (i := 1) GB
  have p2 := block_cell (i := 2) GB
  have p3 := block_cell (i := 3) GB
  have f0 := block_free (i := 0) GB
  have f1 := block_free (i := 1) GB
  have f2 := block_free (i := 2) GB
  have f3 := block_free (i := 3) GB
  simp only [List.getElem?_toArray, List.getElem?_cons_zero, List.getElem?_cons_succ] at p0 p1 p2 p3
  have HGB := hid GB
  have HOB := hid hob
  clear GB hob
  obtain ⟨q0, q1, q2, q3⟩ := FX.out w5 hw5
  have s0 : ((w5.setCell ⟨Bo, 0, none⟩ (.int .i64 c.ev)).setCell ⟨Bo, 1, none⟩ (.slice Ab c.bs.length cb)).setCell ⟨Bo, 2, none⟩ (.int .i64 c.wi) = ((w5.setCell ⟨Bo, 0, none⟩ (.int .i64 c.ev)).setCell ⟨Bo, 1, none⟩ (.slice Ab c.bs.length cb)).setCell ⟨Bo, 2, none⟩ (.int .i64 c.wi) := rfl
  clear s0
  obtain ⟨Wn, hWn⟩ : ∃ Wn, (((w5.setCell ⟨Bo, 0, none⟩ (.int .i64 c.ev)).setCell ⟨Bo, 1, none⟩ (.slice Ab c.bs.length cb)).setCell ⟨Bo, 2, none⟩ (.int .i64 c.wi)).setCell ⟨Bo, 3, none⟩ (.slice none 0 0) = Wn := ⟨_, rfl⟩
  have hxn : Ext W1 Wn := by rw [← hWn]; exact (((hw5.setCell (by simpa using hBo) _).setCell (by simpa using hBo) _).setCell (by simpa using hBo) _).setCell (by simpa using hBo) _
  have GN : Wn.heap[Bo]? = some (.cells #[.int .i64 c.ev, .slice Ab c.bs.length cb, .int .i64 c.wi, .slice none 0 0] 72 (0, 0)) := by
    have h := heap_set (heap_set (heap_set (heap_set HGB.out (i := 0) (.int .i64 c.ev)) (i := 1) (.slice Ab c.bs.length cb)) (i := 2) (.int .i64 c.wi)) (i := 3) (.slice none 0 0)
    rw [hWn] at h
    simpa using h
  have hKBn : KB w5 Wn := by
    rw [← hWn]
    have g0 := heap_set HGB.out (i := 0) (.int .i64 c.ev)
    have g1 := heap_set g0 (i := 1) (.slice Ab c.bs.length cb)
    have g2 := heap_set g1 (i := 2) (.int .i64 c.wi)
    exact (((KB.set HGB.out (by decide) _ rfl _).trans (KB.set g0 (by decide) _ rfl _)).trans (KB.set g1 (by decide) _ rfl _)).trans (KB.set g2 (by decide) _ rfl _)
  obtain ⟨r0, r1, r2, r3⟩ := FX.out Wn hxn
  have hPb : ∀ a, Ab = some a → PB Wn a := fun a ha => hKBn.pb (pb_own HOB.out a ha)
  have hRb : Bounds Wn Ab c.bs := hKBn.rd (pb_own HOB.out) (Rd.of_own HOB.out)
  have HPB := hid hPb
  have HRB := hid hRb
  simp only [List.drop_succ_cons, List.drop_zero]
  clear hPb hRb hKBn HGB HOB
  go_wp2
  try rw [hWn]
  clear hWn p0 p1 p2 p3 f0 f1 f2 f3 q0 q1 q2 q3 r0 r1 r2 r3
  go_loopw [17] (fun i wr => ∃ (k : Nat) (A' : Option Addr) (c' : Nat) (xs : List Value), k ≤ c.cl.length ∧ i = .int .i64 (k : Int) ∧ Hid (wr.heap[Bo]? = some (.cells #[.int .i64 c.ev, .slice Ab c.bs.length cb, .int .i64 c.wi, .slice A' k c'] 72 (0, 0))) ∧ Hid (wr.ownsRow W1.heap.size 149 2 (.slice A' k c') k xs) ∧ Hid (ClP (PB wr) wr xs (c.cl.take k)) ∧ Ext W1 wr ∧ Hid (KB Wn wr)) (fun i _ => c.cl.length - (intOf i).toNat)
  case atStart => exact ⟨0, none, 0, [], Nat.zero_le _, rfl, GN, own_nil _ _ _ _, trivial, hxn, fun _ _ h => h⟩
  case round =>
    obtain ⟨k, A', c', xs, hk, rfl, HG, HO, HP, hx, HK⟩ := hrel
    obtain ⟨q0, q1, q2, q3⟩ := FX.out wr hx
    by_cases hlt : k < c.cl.length
    · have hlt' : (k : Int) < (c.cl.length : Int) := by omega
      obtain ⟨x, hxk⟩ := get_of_lt c.cl k hlt
      have HT : Hid (c.cl.take (k + 1) = c.cl.take k ++ [x]) := take_next hxk
      obtain ⟨b, off, A4, c4, rfl, g0, g1, hB4⟩ := (hC.ext (hx1.trans hx)).at_ hxk
      have hxl := HL3.out x (mem_of_get hxk)
      obtain ⟨Wx, hWx⟩ : ∃ Wx, wr.alloc (.cells #[.int .i64 x.w, .slice A4 x.bs.length c4] 37) = Wx := ⟨_, rfl⟩
      have hxx : Ext wr Wx := by rw [← hWx]; exact Ext.alloc (Ext.refl _) _
      obtain ⟨Bx, hBx⟩ : ∃ Bx, wr.heap.size = Bx := ⟨_, rfl⟩
      have hBor : Bo < wr.heap.size := (Array.getElem?_eq_some_iff.1 HG.out).1
      have FQ : Hid (∀ w', Ext Wx w' → w'.cell? ⟨Bx, 0, none⟩ = some (.int .i64 x.w) ∧ w'.cell? ⟨Bx, 1, none⟩ = some (.slice A4 x.bs.length c4) ∧ w'.cell? ⟨Bo, 3, none⟩ = some (.slice A' k c')) := fun w' h =>
        ⟨h.cell (by rw [← hBx, ← hWx]; simp [go_sem]), h.cell (by rw [← hBx, ← hWx]; simp [go_sem]), block_cell (i := 3) ((Below.block (hxx.trans h) Bo hBor).trans HG.out)⟩
      have hB4 := hB4.ext hxx
      have hW1x : W1.heap.size ≤ Wx.heap.size := (hx.trans hxx).size
      clear hxk
      go_wp2
      try rw [hWx]
      try rw [hBx]
      clear hWx g0 g1 q0 q1 q2 q3
      refine wp_region_shut_tail Ext (fun w' => Ext Wx w') (fun | 6 => some (fun v w' => ∃ A' c', v = .slice A' x.bs.length c' ∧ w'.ownsRow W1.heap.size 114 3 (.slice A' x.bs.length c') x.bs.length (bcells x.bs)) | 7 => some (fun v w' => ∃ A' c', v = .agg #[.int .i64 x.w, .slice A' x.bs.length c'] ∧ w'.ownsRow W1.heap.size 114 3 (.slice A' x.bs.length c') x.bs.length (bcells x.bs)) | 8 => some (fun v w' => ∃ B A' c', v = .slice (some ⟨B, 0, none⟩) 1 1 ∧ w'.heap[B]? = some (.cells #[.int .i64 x.w, .slice A' x.bs.length c'] 149 (0, 0)) ∧ w'.ownsRow W1.heap.size 114 3 (.slice A' x.bs.length c') x.bs.length (bcells x.bs)) | _ => none) 9 (by kernel_rfl) (by kernel_rfl) (fun _ _ h k => h.trans k) ?hT2 (Ext.drew (Ext.refl Wx)) ?_
      case hT2 =>
        intro i R hR
        match i, hR with
        | 6, hR => cases hR; exact fun _ _ _ ⟨A', c', e, h⟩ k => ⟨A', c', e, own_below h k⟩
        | 7, hR => cases hR; exact fun _ _ _ ⟨A', c', e, h⟩ k => ⟨A', c', e, own_below h k⟩
        | 8, hR => cases hR; exact fun _ _ _ ⟨B, A', c', e, h1, h⟩ k => ⟨B, A', c', e, (Below.block k B (Array.getElem?_eq_some_iff.1 h1).1).trans h1, own_below h k⟩
      refine wM_val ?ub0 rfl rfl Ext.refl (fun w' hD => ?hb0) (fun phb0 => ?nb0)
      case hb0 =>
        obtain ⟨d0, d1, d2⟩ := FQ.out _ hD.1
        go_simp; rfl
      simp only [Act.put, List.setIfInBounds_toArray, List.set_cons_succ, List.set_cons_zero, Nat.reduceAdd]
      refine wM_val ?ub1 rfl rfl Ext.refl (fun w' hD => ?hb1) (fun phb1 => ?nb1)
      case hb1 =>
        obtain ⟨d0, d1, d2⟩ := FQ.out _ hD.1
        go_simp; rfl
      simp only [Act.put, List.setIfInBounds_toArray, List.set_cons_succ, List.set_cons_zero, Nat.reduceAdd]
      refine wM_val ?ub2 rfl rfl Ext.refl (fun w' hD => ?hb2) (fun phb2 => ?nb2)
      case hb2 =>
        obtain ⟨d0, d1, d2⟩ := FQ.out _ hD.1
        go_simp; rfl
      simp only [Act.put, List.setIfInBounds_toArray, List.set_cons_succ, List.set_cons_zero, Nat.reduceAdd]
      refine wM_val ?ub3 rfl rfl Ext.refl (fun w' hD => ?hb3) (fun phb3 => ?nb3)
      case hb3 =>
        obtain ⟨d0, d1, d2⟩ := FQ.out _ hD.1
        go_simp; rfl
      simp only [Act.put, List.setIfInBounds_toArray, List.set_cons_succ, List.set_cons_zero, Nat.reduceAdd]
      refine wM_val ?ub4 rfl rfl Ext.refl (fun w' hD => ?hb4) (fun phb4 => ?nb4)
      case hb4 =>
        obtain ⟨d0, d1, d2⟩ := FQ.out _ hD.1
        go_simp; rfl
      simp only [Act.put, List.setIfInBounds_toArray, List.set_cons_succ, List.set_cons_zero, Nat.reduceAdd]
      refine wM_val ?ub5 rfl rfl Ext.refl (fun w' hD => ?hb5) (fun phb5 => ?nb5)
      case hb5 =>
        obtain ⟨d0, d1, d2⟩ := FQ.out _ hD.1
        go_simp; rfl
      simp only [Act.put, List.setIfInBounds_toArray, List.set_cons_succ, List.set_cons_zero, Nat.reduceAdd]
      refine wM_op _ rfl rfl (opens_call ?fb6 ?gb6 (fun w' hD => ?hb6) (fun w' hD => ?cb6)) (fun v6 hv6 => ?nb6)
      case hb6 => go_simp; constructor <;> rfl
      case cb6 =>
        refine (bounded_any A4 c4 x.bs w' (hB4.ext hD.1) hxl).mono ?_
        rintro e w2 ⟨A', c', rfl, ho, hb⟩
        exact ⟨_, rfl, hb, A', c', rfl, own_base ho (Nat.le_trans hW1x hD.1.size)⟩
      obtain ⟨_, -, -, A6, c6, rfl, -⟩ := hv6
      simp only [Act.put, List.setIfInBounds_toArray, List.set_cons_succ, List.set_cons_zero, Nat.reduceAdd]
      refine wM_op _ rfl rfl (opens_val (fun w' hD => ?hb7)) (fun vb7 hvb7 => ?nb7)
      case hb7 =>
        obtain ⟨-, A6', c6', e6, ho6⟩ := hD.get 6 (by first | kernel_rfl | simp [Region.binds])
        cases e6
        refine ⟨.agg #[.int .i64 x.w, .slice A6 x.bs.length c6], w', ?_, Ext.refl _, A6, c6, rfl, ho6⟩
        go_simp
      obtain ⟨_, -, -, A7, c7, rfl, -⟩ := hvb7
      simp only [Act.put, List.setIfInBounds_toArray, List.set_cons_succ, List.set_cons_zero, Nat.reduceAdd]
      refine wM_op _ rfl rfl (opens_val (fun w' hD => ?hb8)) (fun vb8 hvb8 => ?nb8)
      case hb8 =>
        obtain ⟨-, A7', c7', e7, ho7⟩ := hD.get 7 (by first | kernel_rfl | simp [Region.binds])
        cases e7
        refine ⟨.slice (some ⟨w'.heap.size, 0, none⟩) 1 1, w'.alloc (.cells #[.int .i64 x.w, .slice A7 x.bs.length c7] 149), ?_, Ext.alloc (Ext.refl _) _, w'.heap.size, A7, c7, rfl, World.alloc_heap_new _ _, own_below ho7 (Ext.alloc (Ext.refl _) _)⟩
        go_simp
      obtain ⟨_, -, -, B8, -, -, rfl, -⟩ := hvb8
      simp only [Act.put, List.setIfInBounds_toArray, List.set_cons_succ, List.set_cons_zero, Nat.reduceAdd]
      refine wM_nil ?_
      intro w5' hw5' hF5'
      obtain ⟨-, B8', A8, c8, e8, hG8, hO8⟩ := hF5' 8
      cases e8
      clear hF5' FQ
      have hxw := hxx.trans hw5'
      have O5 := hid (own_below HO.out hxw)
      have G5 := (Below.block hxw Bo hBor).trans HG.out
      have P5 := hid (HP.out.kb (KB.ext hxw))
      have hK5 := hid (HK.out.trans (KB.ext hxw))
      have hx5 := hx.trans hxw
      have hbase := hx5.size
      have HG5 := hid G5
      have HG8 := hid (rd_block hG8 (xs := [.int .i64 x.w, .slice A8 x.bs.length c8]))
      have HO8 := hid hO8
      have hby : (k + 1) * 32 ≤ 140737488355328 := by omega
      have hone : ∀ u ∈ [Value.int .i64 x.w, .slice A8 x.bs.length c8], u.oneCell' = true := by intro u hu; simp at hu; rcases hu with rfl | rfl <;> rfl
      clear hG8 hO8 G5
      simp only [List.drop_succ_cons, List.drop_zero]
      go_wp2_with (at_builtin; refine wpList_append_rd _ rfl _ _ 70 rfl elem_rclaim W1.heap.size _ k xs rfl O5.out _ 1 1 [.int .i64 x.w, .slice A8 x.bs.length c8] rfl rfl HG8.out hone hby hbase ?_)
      intro A9 c9 w6 hown6 hbel6 hgr6 _
      rw [← hz1] at hown6 hbel6
      have hx6 : Ext W1 w6 := Below.trans hx5 hbel6
      have G6 := grown_keep O5.out (show 149 ≠ 72 by decide) hgr6 HG5.out
      have hK6 := KB.grown O5.out (by decide) hgr6
      have p3 := block_cell (i := 3) G6
      have f3 := block_free (i := 3) G6
      simp only [List.getElem?_toArray, List.getElem?_cons_zero, List.getElem?_cons_succ] at p3
      have hbs : BelS (fun n => n = Bo) w6 (w6.setCell ⟨Bo, 3, none⟩ (.slice A9 (k + 1) c9)) := BelS.setCell (S := fun n => n = Bo) (BelS.refl _ w6) _ _ rfl
      have G7 : Hid ((w6.setCell ⟨Bo, 3, none⟩ (.slice A9 (k + 1) c9)).heap[Bo]? = some (.cells #[.int .i64 c.ev, .slice Ab c.bs.length cb, .int .i64 c.wi, .slice A9 (k + 1) c9] 72 (0, 0))) := by
        have h := heap_set G6 (i := 3) (.slice A9 (k + 1) c9)
        unfold Hid
        simpa using h
      have hK67 : KB w6 (w6.setCell ⟨Bo, 3, none⟩ (.slice A9 (k + 1) c9)) := KB.set G6 (by decide) _ rfl _
      have O7 : Hid ((w6.setCell ⟨Bo, 3, none⟩ (.slice A9 (k + 1) c9)).ownsRow W1.heap.size 149 2 (.slice A9 (k + 1) c9) (k + 1) (xs ++ [.int .i64 x.w, .slice A8 x.bs.length c8])) := by
        refine hbs.own hown6 (fun g hg e => ?_)
        rcases hown6.2 with ⟨h, h0⟩ | ⟨g2, cap, cur, h, _, h2, _⟩
        · cases h0
        · cases h
          have e2 : g2 = g := by simpa [Value.ownBlock] using hg
          subst e2
          have e3 : g2 = Bo := e
          rw [e3, G6] at h2
          injection h2 with h3
          injection h3 with _ h4 _
          exact absurd h4 (by decide)
      have P7 : Hid (ClP (PB (w6.setCell ⟨Bo, 3, none⟩ (.slice A9 (k + 1) c9))) (w6.setCell ⟨Bo, 3, none⟩ (.slice A9 (k + 1) c9)) (xs ++ [.int .i64 x.w, .slice A8 x.bs.length c8]) (c.cl.take (k + 1))) := by
        unfold Hid
        rw [HT.out]
        have hKa := hK6.trans hK67
        exact ClP.app (P5.out.kb hKa) ⟨rfl, ⟨A8, c8, rfl, hKa.rd (pb_own HO8.out) (Rd.of_own HO8.out), fun p hp => hKa.pb (pb_own HO8.out p hp)⟩, trivial⟩
      have hx7 : Ext W1 (w6.setCell ⟨Bo, 3, none⟩ (.slice A9 (k + 1) c9)) := hx6.setCell (by simpa using hBo) _
      have hK7 : Hid (KB Wn (w6.setCell ⟨Bo, 3, none⟩ (.slice A9 (k + 1) c9))) := (hK5.out.trans hK6).trans hK67
      clear hown6 hbel6 hgr6 G6 hK6 hbs hK67 HG HO HP HK O5 P5 hK5 HG5 HG8 HO8
      go_wp2
      go_roundw
      case rel => exact ⟨k + 1, A9, c9, _, by omega, by go_num, G7.out, O7.out, P7.out, hx7, hK7.out⟩
      case measure => simp [intOf]; omega
    · have hlt' : ¬ (k : Int) < (c.cl.length : Int) := by omega
      have hke : k = c.cl.length := by omega
      subst hke
      have hP2 : Hid (ClP (PB wr) wr xs c.cl) := by have h := HP.out; rw [List.take_length] at h; exact h
      have g0 := block_cell (i := 0) HG.out
      have g1 := block_cell (i := 1) HG.out
      have g2 := block_cell (i := 2) HG.out
      have g3 := block_cell (i := 3) HG.out
      have GRr := (Below.block hx (w.heap.size + 1) (by omega)).trans GR.out
      have r0 := block_cell (i := 0) GRr
      have r1 := block_cell (i := 1) GRr
      have r2 := block_cell (i := 2) GRr
      have r3 := block_cell (i := 3) GRr
      have rf := fun i => block_free (i := i) GRr
      simp only [List.getElem?_toArray, List.getElem?_cons_zero, List.getElem?_cons_succ] at g0 g1 g2 g3 r0 r1 r2 r3
      have HGR := hid GRr
      have hne : w.heap.size + 1 ≠ Bo := by omega
      clear GRr HP
      go_wp2
      obtain ⟨WF, hWF⟩ : ∃ WF, (((wr.setCell ⟨w.heap.size + 1, 0, none⟩ (.int .i64 c.ev)).setCell ⟨w.heap.size + 1, 1, none⟩ (.slice Ab c.bs.length cb)).setCell ⟨w.heap.size + 1, 2, none⟩ (.int .i64 c.wi)).setCell ⟨w.heap.size + 1, 3, none⟩ (.slice A' c.cl.length c') = WF := ⟨_, rfl⟩
      have hxF : Ext w WF := by rw [← hWF]; exact ((((hx1.trans hx).setCell (by simp) _).setCell (by simp) _).setCell (by simp) _).setCell (by simp) _
      have hbF : BelS (fun n => n = w.heap.size + 1) wr WF := by
        rw [← hWF]
        exact ((((BelS.refl _ wr).setCell (S := fun n => n = w.heap.size + 1) ⟨w.heap.size + 1, 0, none⟩ _ rfl).setCell ⟨w.heap.size + 1, 1, none⟩ _ rfl).setCell ⟨w.heap.size + 1, 2, none⟩ _ rfl).setCell ⟨w.heap.size + 1, 3, none⟩ _ rfl
      have hKF : KB wr WF := fun n cur hn => hbF.heap hn (fun e => by
        have e2 : n = w.heap.size + 1 := e
        rw [e2, HGR.out] at hn
        injection hn with h1
        injection h1 with _ h2 _
        exact absurd h2 (by decide))
      refine bodyPost_ret (v := .agg #[.int .i64 c.ev, .slice Ab c.bs.length cb, .int .i64 c.wi, .slice A' c.cl.length c']) ?res rfl
        ⟨_, rfl, ⟨Ab, cb, A', c', xs, W1.heap.size, rfl, ?zn1, ?zn5, ?zn2, ?zn3⟩, ?zn4⟩
      case res => simp [results, Try.results37, go_sem, r0, r1, r2, r3]
      all_goals rw [hWF]
      case zn1 => exact (HK.out.trans hKF).rd HPB.out HRB.out
      case zn2 =>
        refine hbF.own HO.out (fun g hg e => ?_)
        have e2 : g = w.heap.size + 1 := e
        have := (HO.out.lt g hg).1
        omega
      case zn3 => exact hP2.out.kb hKF
      case zn5 => exact fun p hp => (HK.out.trans hKF).pb (HPB.out p hp)
      case zn4 => exact hxF
end Go.Proofs.Ytgnjhaomlbkgcaa

namespace Go.Proofs.Ytgnjhaomlbkgcaa
open Go Go.RowKit
set_option linter.unusedVariables false
set_option linter.unusedSimpArgs false

theorem lOwn : ownKnob Try.prog.godebug = none := by kernel_rfl
theorem lLaid : laidOutB Try.prog = true := by kernel_rfl
/-- A slice of integers that came in: nil, or a row of numbers, each fitting its kind. -/
def IsRow (k : IntKind) (w : World) (a : Option Addr) (len cap : Nat) (zs : List Int) : Prop :=
  (a = none ∧ len = 0 ∧ cap = 0 ∧ zs = []) ∨
  ∃ x, a = some x ∧ len ≤ cap ∧ cap ≤ maxLen ∧ zs.length = cap ∧ (∀ i, i < zs.length → w.cell? (x.add i) = some (.int k (zs.getD i 0))) ∧ ∀ n ∈ zs, (Lit.int k n).wf = true
theorem wf_u8 {n : Int} (h : (Lit.int .u8 n).wf = true) : 0 ≤ n ∧ n ≤ 255 := by
  have h1 : (decide (0 ≤ n) && decide (n ≤ 255)) = true := h
  simpa using h1
/-- The bytes that a slice shows. -/
theorem IsRow.bytes {w : World} {a : Option Addr} {len cap : Nat} {zs : List Int} (h : IsRow .u8 w a len cap zs) :
    ∃ l : List Int, l.length = len ∧ Bytes w a l ∧ (∀ x ∈ l, 0 ≤ x ∧ x ≤ 255) ∧ (∀ x, a = some x → l = [] ∨ x.block < w.heap.size) ∧ l.length ≤ 9223372036854775807 := by
  rcases h with ⟨rfl, rfl, rfl, rfl⟩ | ⟨x, rfl, hl, hm, hz, hcell, hw⟩
  · exact ⟨[], rfl, .inl rfl, by simp, by simp, by simp⟩
  · simp only [maxLen] at hm
    refine ⟨zs.take len, by simp; omega, ?_, fun n hn => wf_u8 (hw n (List.mem_of_mem_take hn)), fun y hy => ?_, by simp; omega⟩
    rotate_left
    · cases hy
      by_cases h0 : len = 0
      · left; rw [h0]; rfl
      · right
        have hc := hcell 0 (by omega)
        have := World.block_lt_of_cell? w _ hc
        simpa [Addr.add] using this
    by_cases h0 : len = 0
    · subst h0; exact .inl (by simp)
    · obtain ⟨b, off, spot⟩ := x
      have hc := hcell 0 (by omega)
      have hspot : spot = none := by simpa [Addr.add] using World.cell?_spot hc
      subst hspot
      refine .inr ⟨b, off, rfl, fun j u hu => ?_⟩
      have hj : j < (zs.take len).length := by have := (List.getElem?_eq_some_iff.1 hu).1; simpa using this
      have hj2 : j < len := by simp at hj; omega
      have hc2 := hcell j (by omega)
      rw [Addr.add_lit] at hc2
      rw [hc2, ← hu]
      have hjz : j < zs.length := by omega
      simp [List.getElem?_take, hj2, List.getD, List.getElem?_eq_getElem hjz]
end Go.Proofs.Ytgnjhaomlbkgcaa

namespace Go.Proofs.Ytgnjhaomlbkgcaa
open Go Go.RowKit Go.Shelf Go.Maps
set_option linter.unusedVariables false
set_option linter.unusedSimpArgs false

set_option maxRecDepth 100000
theorem arcRow : (176 : TypeId) < Try.prog.types.size := of_decide_eq_true (by kernel_rfl)
theorem arcWide : (match Try.prog.underlying 176 with | some (.array _ _) | some (.struct _) => true | _ => false) = true := by rw [Try.underlying176]
theorem keyArc : Keyed Try.prog 176 := Keyed.of_law (deep_law_laid lLaid (m := 2) (by omega) arcRow (by kernel_rfl) arcWide)
theorem arcTiled : Try.prog.tiled 2 176 = true := tiled_of_laidOut lLaid 2 _ (by kernel_rfl) (by kernel_rfl)
def arcL (a x : Int) : Lit := .string (keyBytes [.int .i64 a, .int .i64 x])
theorem arcType : Try.prog.keyType 176 = true := by kernel_rfl
theorem cellsArc : Try.prog.cellsOf 176 = 2 := by kernel_rfl
theorem cellsInt : Try.prog.cellsOf 3 = 1 := by kernel_rfl
theorem arcSize : ∃ m, Try.prog.types.size = m + 1 := ⟨Try.prog.types.size - 1, (Nat.succ_pred_eq_of_pos (Nat.lt_of_le_of_lt (Nat.zero_le _) arcRow)).symm⟩
theorem keyOf_arc {a x : Int} (wa : (Lit.int .i64 a).wf = true) (wx : (Lit.int .i64 x).wf = true) : keyOf Try.prog 176 (.agg #[.int .i64 a, .int .i64 x]) = some (arcL a x) := by
  obtain ⟨m, hm⟩ := arcSize
  unfold keyOf arcL
  simp only [Try.underlying176]
  rw [if_pos (by simp [arcType, Value.formed, Try.underlying176, cellsArc]), hm]
  unfold Program.keyLits
  simp only [Try.underlying176, Value.cells]
  rw [if_pos ⟨by rw [cellsArc]; rfl, by decide +kernel⟩]
  simp [cellsInt, Program.keyLits, Try.underlying3, wa, wx]
theorem arcL_inj {a x y : Int} (wa : (Lit.int .i64 a).wf = true) (wx : (Lit.int .i64 x).wf = true) (wy : (Lit.int .i64 y).wf = true) (h : arcL a x = arcL a y) : x = y := by
  have h1 := keyOf_arc wa wx
  have h2 := keyOf_arc wa wy
  rw [← h] at h2
  have := keyOf_inj_deep arcTiled arcWide h1 h2
  simpa using this
theorem arcL_lit (a x : Int) : WideAt.IsKeyLit (arcL a x) := trivial
end Go.Proofs.Ytgnjhaomlbkgcaa

namespace Go.Proofs.Ytgnjhaomlbkgcaa
open Go Go.RowKit Go.Shelf Go.Maps
set_option linter.unusedVariables false
set_option linter.unusedSimpArgs false

/-! A block of eight numbers -/
def l8 (f : Nat → Int) : List Int := (List.range 8).map f
theorem l8_len (f : Nat → Int) : (l8 f).length = 8 := by simp [l8]
theorem l8_get (f : Nat → Int) {k : Nat} (h : k < 8) : (l8 f)[k]? = some (f k) := by simp [l8, h]
theorem l8_congr {f g : Nat → Int} (h : ∀ k, k < 8 → f k = g k) : l8 f = l8 g := List.map_congr_left fun k hk => h k (by simpa using hk)
theorem l8_eq {f g : Nat → Int} (h : l8 f = l8 g) {k : Nat} (hk : k < 8) : f k = g k := by
  have h1 := l8_get f hk
  rw [h, l8_get g hk] at h1
  exact (Option.some.inj h1).symm
theorem l8_upd (f : Nat → Int) (k : Nat) (x : Int) : l8 (upd1 f k x) = (l8 f).set k x := by
  apply List.ext_getElem?
  intro j
  simp only [List.getElem?_set, l8_len, l8, List.getElem?_map, List.getElem?_range', List.length_map, List.length_range]
  by_cases hj : j < 8
  · rw [List.getElem?_range hj]
    by_cases e : j = k
    · subst e; simp [upd1, hj]
    · have e' : ¬ k = j := fun q => e q.symm
      simp [upd1, e, e']
  · have h1 : (List.range 8)[j]? = none := by simp; omega
    rw [h1]
    by_cases e : k = j
    · subst e; simp [hj]
    · simp [e]
def A8 (w : World) (B : Nat) (f : Nat → Int) : Prop := w.heap[B]? = some (.cells ((l8 f).map (.int .i64)).toArray 56 (0, 0))
theorem A8.lt {w : World} {B : Nat} {f : Nat → Int} (h : A8 w B f) : B < w.heap.size := (Array.getElem?_eq_some_iff.1 h).1
theorem A8.ext {w w' : World} {B : Nat} {f : Nat → Int} (h : A8 w B f) (hx : Ext w w') : A8 w' B f := (Below.block hx B h.lt).trans h
theorem A8.belS {S : Nat → Prop} {w w' : World} {B : Nat} {f : Nat → Int} (h : A8 w B f) (hx : BelS S w w') (hn : ¬ S B) : A8 w' B f := hx.heap h hn
theorem A8.congr {w : World} {B : Nat} {f g : Nat → Int} (h : A8 w B f) (e : ∀ k, k < 8 → f k = g k) : A8 w B g := by
  unfold A8 at *; rw [← l8_congr e]; exact h
theorem A8.cells {w : World} {B : Nat} {f : Nat → Int} (h : A8 w B f) : ∀ j v, ((l8 f).map (Value.int .i64))[j]? = some v → w.cell? ((⟨B, 0, none⟩ : Addr).add j) = some v := fun j v hj => by
  rw [Addr.add_lit, Nat.zero_add, cell_of_row w B j _ _ _ h]
  simpa using hj
theorem A8.at_ {w : World} {B : Nat} {f : Nat → Int} (h : A8 w B f) {k : Nat} (hk : k < 8) : w.cell? ⟨B, k, none⟩ = some (.int .i64 (f k)) := by
  rw [cell_of_row w B k _ _ _ h]
  simp [l8_get f hk]
theorem A8.frozen {w : World} {B : Nat} {f : Nat → Int} (h : A8 w B f) (k : Nat) : w.frozen? ⟨B, k, none⟩ = false := by
  unfold A8 at h
  simp [World.frozen?, h]
theorem A8.set {w : World} {B : Nat} {f : Nat → Int} (h : A8 w B f) (k : Nat) (x : Int) : A8 (w.setCell ⟨B, k, none⟩ (.int .i64 x)) B (upd1 f k x) := by
  unfold A8 at h ⊢
  rw [l8_upd]
  simp only [World.setCell, Array.getElem?_modify, h, if_true, Option.map_some]
  simp only [List.setIfInBounds_toArray, List.map_set, Option.isSome_none, Bool.false_eq_true, if_false]
theorem A8.own {β : Type} (B0 B : Nat) (f : β → Nat → Int) : OwnFrom B0 (fun s W => A8 W B (f s)) := fun s X Y row hs hg hrow => by
  unfold A8 at *
  refine (hg.block B (Array.getElem?_eq_some_iff.1 hs).1 (fun e => ?_)).trans hs
  obtain ⟨o, ho, hc⟩ := (hrow B e.symm).2
  rw [hs] at ho; cases ho; cases hc
theorem info8 : (Try.prog.info? 56).map (·.size) = some 8 := by kernel_rfl

/-! The map of the bounds found last -/
def MapArc (w : World) (M n : Nat) (a : Nat) (by_ : Nat → Nat) : Prop := ∃ D : DataW Unit, w.ownsMap Try.prog 176 (plainElem Try.prog 3) M n D ∧ ∀ x : Nat, x < 8 → D.atKey (arcL a x) (.lit (.int .i64 0)) = .lit (.int .i64 ((by_ x : Nat) : Int))
theorem MapArc.mono {w : World} {M n m a : Nat} {b : Nat → Nat} (h : MapArc w M n a b) (hm : n ≤ m) : MapArc w M m a b := by
  obtain ⟨D, h1, h2⟩ := h
  exact ⟨D, h1.mono hm, h2⟩
theorem MapArc.lt {w : World} {M n a : Nat} {b : Nat → Nat} (h : MapArc w M n a b) : M < w.heap.size := by
  obtain ⟨D, h1, h2⟩ := h
  exact h1.lt
theorem MapArc.kept {w w' : World} {M n a : Nat} {b : Nat → Nat} {row : Option Nat} (h : MapArc w M n a b) (hg : w.grownBy w' row) (hn : some M ≠ row) : MapArc w' M n a b := by
  obtain ⟨D, h1, h2⟩ := h
  exact ⟨D, h1.kept hg hn, h2⟩
theorem MapArc.heap {w w' : World} {M n a : Nat} {b : Nat → Nat} (h : MapArc w M n a b) (he : w'.heap[M]? = w.heap[M]?) : MapArc w' M n a b := by
  obtain ⟨D, ⟨es, cl, hb, F, hs, hD⟩, h2⟩ := h
  exact ⟨D, ⟨es, cl, he.trans hb, F, hs, hD⟩, h2⟩
theorem MapArc.ext {w w' : World} {M n a : Nat} {b : Nat → Nat} (h : MapArc w M n a b) (hx : Ext w w') : MapArc w' M n a b := h.heap (Below.block hx M h.lt)
theorem MapArc.belS {S : Nat → Prop} {w w' : World} {M n a : Nat} {b : Nat → Nat} (h : MapArc w M n a b) (hx : BelS S w w') (hn : ¬ S M) : MapArc w' M n a b := h.heap (hx.2 M h.lt hn)
theorem MapArc.setCell {w : World} {M n a : Nat} {b : Nat → Nat} (h : MapArc w M n a b) (p : Addr) (u : Value) (hp : M ≠ p.block) : MapArc (w.setCell p u) M n a b := h.heap (heap_setCell_ne _ _ _ _ hp)
theorem MapArc.start (w : World) (a : Nat) : MapArc (w.alloc (.map #[] 0)) w.heap.size 0 a (fun _ => 0) := ⟨.map [], World.ownsMap_made _ _ _ _, fun _ _ => rfl⟩
theorem wf8 {x : Nat} (h : x < 8) : (Lit.int .i64 (x : Int)).wf = true := WalkArith.wf_i64 (by omega)
theorem map_put {D : DataW Unit} {a : Nat} (ha : a < 8) {b : Nat → Nat} (hD : IsMap D) (h : ∀ x : Nat, x < 8 → D.atKey (arcL a x) (.lit (.int .i64 0)) = .lit (.int .i64 ((b x : Nat) : Int))) {t : Nat} (ht : t < 8) (i : Nat) :
    ∀ x : Nat, x < 8 → (D.put (arcL a t) (.lit (.int .i64 (i : Int)))).atKey (arcL a x) (.lit (.int .i64 0)) = .lit (.int .i64 ((upd1 b t i x : Nat) : Int)) := fun x hx => by
  unfold upd1
  by_cases e : x = t
  · subst e
    rw [if_pos rfl, atKey_put_same hD (arcL_lit _ _)]
  · rw [if_neg e, atKey_put_other (fun q => e (by have := arcL_inj (wf8 ha) (wf8 hx) (wf8 ht) q; omega))]
    exact h x hx

/-! Rounds -/
theorem bstep_yes {was : Nat → Int} {s : RS} {i fn tn : Nat} {m : Int} (h1 : was fn ≠ far) (h2 : was fn + m < s.sm tn) : bstep was s (i, ⟨fn, tn, m⟩) = ⟨upd1 s.sm tn (was fn + m), upd1 s.by_ tn i, 0⟩ := by
  unfold bstep; rw [if_pos ⟨by simpa using h1, by simpa using h2⟩]; rfl
theorem bstep_no {was : Nat → Int} {s : RS} {i fn tn : Nat} {m : Int} (h : ¬ (was fn ≠ far ∧ was fn + m < s.sm tn)) : bstep was s (i, ⟨fn, tn, m⟩) = s := by
  unfold bstep; rw [if_neg (by simpa using h)]
theorem bpass_snoc (was : Nat → Int) (s : RS) (L : List (Nat × Bd)) (p : Nat × Bd) : bpass was s (L ++ [p]) = bstep was (bpass was s L) p := by
  unfold bpass; rw [List.foldl_append]; rfl
theorem bpass_fix {was : Nat → Int} : ∀ (M : List (Nat × Bd)) (s : RS), (∀ p ∈ M, p.2.ok) → (∀ x, x < 8 → s.sm x ≤ was x) → (∀ x, x < 8 → (bpass was s M).sm x = was x) → bpass was s M = s := by
  intro M
  induction M with
  | nil => intro s _ _ _; rfl
  | cons p M ih =>
    intro s hok hle heq
    have hstep : bstep was s p = s := by
      unfold bstep
      split
      · rename_i h
        have hp := hok p (by simp)
        obtain ⟨⟨f0, f8⟩, ⟨t0, t8⟩, _⟩ := hp
        have ht : p.2.t.toNat < 8 := by omega
        have e1 := heq p.2.t.toNat ht
        have e2 := bpass_le was M (bstep was s p) p.2.t.toNat
        have e3 : (bstep was s p).sm p.2.t.toNat = was p.2.f.toNat + p.2.m := by unfold bstep; rw [if_pos h]; simp [upd1]
        have e4 := hle p.2.t.toNat ht
        have e5 : bpass was s (p :: M) = bpass was (bstep was s p) M := rfl
        rw [e5] at e1
        omega
      · rfl
    have e5 : bpass was s (p :: M) = bpass was (bstep was s p) M := rfl
    rw [e5, hstep] at heq ⊢
    exact ih s (fun q hq => hok q (by simp [hq])) hle heq
theorem brun_fix {L : List (Nat × Bd)} : ∀ (n : Nat) {s : RS}, bpass s.sm s L = s → brun L n s = s := by
  intro n
  induction n with
  | zero => intro s _; rfl
  | succ n ih => intro s h; show brun L n (bpass s.sm s L) = s; rw [h]; exact ih h
/-- Sums in reach: after k rounds. -/
def RB (k : Nat) (f : Nat → Int) : Prop := ∀ x, x < 8 → -(1000 * (k : Int)) ≤ f x ∧ f x ≤ far
theorem RB.mono {k m : Nat} {f : Nat → Int} (h : RB k f) (hm : k ≤ m) : RB m f := fun x hx => ⟨by have := (h x hx).1; omega, (h x hx).2⟩
theorem RB.start {a : Nat} : RB 0 (BS0 a).sm := fun x _ => by
  show -(1000 * ((0 : Nat) : Int)) ≤ (if x = a then (0 : Int) else far) ∧ (if x = a then (0 : Int) else far) ≤ far
  unfold far
  split <;> omega
theorem RB.step {k : Nat} {was : Nat → Int} {s : RS} (hw : RB k was) (h : RB (k + 1) s.sm) {p : Nat × Bd} (hp : p.2.ok) : RB (k + 1) (bstep was s p).sm := fun x hx => by
  unfold bstep
  split
  · rename_i hc
    obtain ⟨⟨f0, f8⟩, ⟨t0, t8⟩, m0, m1⟩ := hp
    have h1 := hw p.2.f.toNat (by omega)
    have h2 := h p.2.t.toNat (by omega)
    have h3 := h x hx
    simp only [upd1]
    split
    · exact ⟨by omega, by omega⟩
    · exact h3
  · exact h x hx
theorem RB.pass {k : Nat} {was : Nat → Int} (hw : RB k was) : ∀ (M : List (Nat × Bd)) (s : RS), RB (k + 1) s.sm → (∀ p ∈ M, p.2.ok) → RB (k + 1) (bpass was s M).sm := by
  intro M
  induction M with
  | nil => intro s h _; exact h
  | cons p M ih => intro s h hok; exact ih (bstep was s p) (hw.step h (hok p (by simp))) (fun q hq => hok q (by simp [hq]))
theorem numFrom_app : ∀ (l m : List Bd) (n : Nat), numFrom n (l ++ m) = numFrom n l ++ numFrom (n + l.length) m := by
  intro l
  induction l with
  | nil => intro m n; rfl
  | cons b l ih =>
    intro m n
    simp only [List.cons_append, numFrom, List.length_cons]
    rw [ih, show n + (l.length + 1) = n + 1 + l.length by omega]
theorem clNum_all : ∀ (l : List Cl) (n : Nat), clNum allT n l = numFrom n (l.flatMap (·.bs)) := by
  intro l
  induction l with
  | nil => intro n; rfl
  | cons x l ih =>
    intro n
    simp only [clNum, allT, if_true, List.flatMap_cons, numFrom_app]
    rw [← ih]
theorem belNum_all (c : Cs) : belNum allT c = numFrom 0 c.all := by
  unfold belNum Cs.all
  rw [numFrom_app, clNum_all, Nat.zero_add]
theorem numFrom_length (l : List Bd) (n : Nat) : (numFrom n l).length = l.length := by
  have h := congrArg List.length (numFrom_snd' l n)
  rw [List.length_map] at h
  exact h
theorem numFrom_mem {l : List Bd} {n : Nat} {p : Nat × Bd} (h : p ∈ numFrom n l) : p.2 ∈ l := by
  rw [← numFrom_snd' l n]
  exact List.mem_map.2 ⟨p, h, rfl⟩
theorem numFrom_lt : ∀ {l : List Bd} {n : Nat} {p : Nat × Bd}, p ∈ numFrom n l → n ≤ p.1 ∧ p.1 < n + l.length := by
  intro l
  induction l with
  | nil => intro n p h; cases h
  | cons b l ih =>
    intro n p h
    rcases List.mem_cons.1 h with rfl | h
    · simp
    · have := ih h
      simp only [List.length_cons]
      omega
end Go.Proofs.Ytgnjhaomlbkgcaa

namespace Go.Proofs.Ytgnjhaomlbkgcaa
open Go Go.RowKit Go.Shelf Go.Maps
set_option linter.unusedVariables false
set_option linter.unusedSimpArgs false
attribute [local go_sem] Oper.semAt_some

theorem row_own {β : Type} {BB M : Nat} {S : Nat → Prop} {w9 : World} {st : List β → RS} {n a : Nat} (hM : M < w9.heap.size) : OwnFrom w9.heap.size (fun pre W' => A8 W' BB (st pre).sm ∧ MapArc W' M (n + pre.length) a (st pre).by_ ∧ BelS S w9 W') := fun s X Y row hs hg hr =>
  ⟨A8.own _ BB (fun pre : List β => (st pre).sm) s X Y row hs.1 hg hr, hs.2.1.kept hg (fun e => by have := (hr M e.symm).1; omega),
    ⟨hs.2.2.1.grown hg (Nat.zero_le _) (fun _ _ => Nat.zero_le _), fun k hk hD => (hg.block k (Nat.lt_of_lt_of_le hk hs.2.2.size) (fun e => by have := (hr k e.symm).1; omega)).trans (hs.2.2.2 k hk hD)⟩⟩
theorem wpListIn_eql_op {F : Fence} {n : Nat} {P : Program} {ops : Array Oper} {rest : List Oper} {o : Oper} {a : Act} {w : World} {Q : Exit → Act → World → Prop} (hgd : o.guard = none) (t ty : TypeId) (x y : Operand) (ho : o.op = .binOp .eql t x y ty)
    (xs ys : Array Value) (hx : a.eval x = .agg xs) (hy : a.eval y = .agg ys) (b : Bool) (hg : P.eqGuardType P.depth t = false) (he : (Op.equalIn 10000 t (.agg xs) (.agg ys)).run P w = .ok b w)
    (hn : wpListIn F n P ops Q rest (a.put o.dst (.bool b)) w) : wpListIn F n P ops Q (o :: rest) a w := by
  refine wpListIn_plain hgd fun K hK => ?_
  unfold Oper.wpIn
  refine ⟨?_, ?_⟩
  · simp [Oper.about, ho]
  · rw [Oper.semAt_plain F _ _ (by rw [ho]; intro c hc'; cases hc'), run_eql_op w a.eval t ty x y ho xs ys hx hy b hg he]
    exact hK _ _ hn
theorem MapArc.cel {w w' : World} {BB M n a : Nat} {b : Nat → Nat} (h : MapArc w M n a b) (hb : BelS (fun k => k = BB ∨ k = M) w w') : Cel BB w w' := by
  obtain ⟨D, ⟨es, cl, hm, _⟩, _⟩ := h
  refine ⟨hb.size, fun p u hp hu => hb.cell hu (fun e => e.elim hp (fun e2 => ?_))⟩
  simp [World.cell?, e2, hm] at hu
theorem Marks.belS {B : Nat} {S : Nat → Prop} {ds : List Deferred} {W W' : World} (h : Marks B ds W) (hb : BelS S W W') (hS : ∀ k, S k → W.heap[k]? ≠ some (.deferred (some []))) : Marks B ds W' := by
  obtain ⟨rs, e, hn, hr⟩ := h
  exact ⟨rs, e, hn, fun r hm => ⟨(hr r hm).1, hb.heap (hr r hm).2 fun q => hS r q (hr r hm).2⟩⟩
theorem Marks.consS {B : Nat} {S : Nat → Prop} {ds : List Deferred} {W0 W : World} (h0 : Marks B ds W0) (hb : BelS S W0 W) (hS : ∀ k, S k → W0.heap[k]? ≠ some (.deferred (some []))) {r : Nat} (hr : W.heap[r]? = some (.deferred (some []))) (hlt : W0.heap.size ≤ r) (hB : B ≤ W0.heap.size) :
    Marks B ({ target := .collected r, args := #[] } :: ds) W := by
  obtain ⟨rs, e, hn, hh⟩ := h0
  refine ⟨r :: rs, by rw [e]; rfl, List.nodup_cons.2 ⟨fun hm => ?_, hn⟩, fun x hx => ?_⟩
  · have := (Array.getElem?_eq_some_iff.1 (hh r hm).2).1
    omega
  · rcases List.mem_cons.1 hx with rfl | hx
    · exact ⟨by omega, hr⟩
    · exact ⟨(hh x hx).1, hb.heap (hh x hx).2 fun q => hS x q (hh x hx).2⟩
theorem MapArc.nodef {w : World} {M n a : Nat} {b : Nat → Nat} (h : MapArc w M n a b) : w.heap[M]? ≠ some (.deferred (some [])) := by
  obtain ⟨D, ⟨es, cl, hm, _⟩, _⟩ := h
  rw [hm]; intro e; cases e
theorem A8.nodef {w : World} {B : Nat} {f : Nat → Int} (h : A8 w B f) : w.heap[B]? ≠ some (.deferred (some [])) := by
  unfold A8 at h
  rw [h]; intro e; cases e
def outC (f : Nat → Int) (i : Nat) : List Value := ((List.range i).map f).map (Value.int .i64)
theorem outC_succ (f : Nat → Int) (i : Nat) : outC f (i + 1) = outC f i ++ [.int .i64 (f i)] := by unfold outC; rw [List.range_succ, List.map_append, List.map_append]; rfl
theorem outC_len (f : Nat → Int) (i : Nat) : (outC f i).length = i := by simp [outC]
theorem kc_of_cells {W W' : World} (hc : ∀ (k : Nat) (cs : Array Value) (t : TypeId) (m : Nat × Nat), W.heap[k]? = some (.cells cs t m) → W'.heap[k]? = some (.cells cs t m)) : Kc W W' := fun p u hp => by
  unfold World.cell? at hp ⊢
  split at hp
  · rename_i cs t m hh
    rw [hc _ _ _ _ hh]
    exact hp
  · cases hp
set_option maxRecDepth 100000 in
theorem reverse_nil (w : World) : Calls Try.prog 89 #[.slice none 0 0] w fun e w' => (∃ v, e = .returned v) ∧ w' = w := by
  go_enter Try.func89, Try.ntmps89
  go_wp2
  go_loopw [2, 3] (fun i j wr => i = .int .i64 0 ∧ j = .int .i64 (-1) ∧ wr = w) (fun _ _ _ => 0)
  case atStart => exact ⟨rfl, rfl, rfl⟩
  case round =>
    obtain ⟨rfl, rfl, rfl⟩ := hrel
    go_wp2
    go_end0
    exact ⟨⟨_, rfl⟩, rfl⟩
theorem zeroInt (w : World) : (zeroValue 3).run Try.prog w = .ok (.int .i64 0) w := by kernel_rfl
theorem iter_in {f : Nat → Nat} {b : Nat} (i : Nat) (z : Nat) (h : iterN f i b = z) : iterN f (i + 1) b = f z := by rw [iterN_succ, h]
theorem l8_one (f : Nat → Int) : ((l8 f).map (Value.int .i64)).toArray.all (·.oneCell') = true := by
  rw [Array.all_eq_true_iff_forall_mem]
  intro u hu
  simp at hu
  obtain ⟨x, _, rfl⟩ := hu
  rfl
def fillTo (k : Nat) (x : Nat) : Int := if x < k then far else 0

set_option maxRecDepth 100000 in
set_option maxHeartbeats 4000000 in
theorem row_any (v : Value) (c : Cs) (G : Mat) (a b : Nat) (w : World) (hd : DeskR w v c G) (h0 : checkC c = 0) (ha : (a : Int) < c.ev) (hb : (b : Int) < c.ev) (hs : c.sized) (gap : Int) (hok : RowOK c.all c.ev.toNat a b gap) :
    Calls Try.prog 101 #[v, .int .i64 a, .int .i64 b] w fun e w' => ∃ A k, e = .returned (.slice A (rowL c.all c.ev.toNat a b).length k) ∧ Ints w' A (rowL c.all c.ev.toNat a b) ∧ Ext w w' := by
  obtain ⟨D, A1, c1, A2, c2, rfl, hD, hB, hC⟩ := hd
  have hev := checkC_ev h0
  have H0 := hid h0
  have HOK := hid hok
  have h52 := checkC_52 h0
  have hLok : Hid (∀ b ∈ c.all, b.ok) := checkC_bd h0
  obtain ⟨z1, z2⟩ := sized_all h0
  obtain ⟨N, hN⟩ : ∃ N : Nat, c.ev.toNat = N := ⟨_, rfl⟩
  have hNe : (N : Int) = c.ev := by omega
  have ha8 : a < 8 := by omega
  have hb8 : b < 8 := by omega
  rw [hN] at HOK ⊢
  clear hok h0
  have hmm := @run_makeMap Try.prog
  have FX : Hid (∀ w', Ext w w' → w'.cell? ⟨D, 0, none⟩ = some (.int .i64 c.ev) ∧ w'.cell? ⟨D, 1, none⟩ = some (.slice A1 c.bs.length c1) ∧ w'.cell? ⟨D, 2, none⟩ = some (.int .i64 c.wi) ∧ w'.cell? ⟨D, 3, none⟩ = some (.slice A2 c.cl.length c2)) := fun w' h => ⟨h.cell hD.ev, h.cell hD.bs, h.cell hD.wi, h.cell hD.cl⟩
  have hX0 : Ext w (((w.alloc (.cells #[.int .i64 a] 3)).alloc (.map #[] 0)).alloc (.cells #[.map (some (w.heap.size + 1))] 171)) := ((Ext.refl w).alloc _ |>.alloc _).alloc _
  obtain ⟨q0, q1, q2, q3⟩ := FX.out _ hX0
  refine callsIn_wide (n := 9).1 ?_
  refine callsIn_of_wp_marks Try.func101 rfl trivial ?_ rfl
  simp only [Try.ntmps101, List.size_toArray, List.length_cons, List.length_nil, Nat.reduceAdd, Nat.reduceSub, Array.replicate_succ, Array.replicate_zero, List.push_toArray, List.append_toArray, List.nil_append, List.cons_append]
  gi_wp2_with (first
    | (refine ⟨trivial, (callsIn_wide.2 (all_calls _ c _ ⟨A1, c1, A2, c2, rfl, hB.ext hX0, hC.ext hX0⟩ z1 z2)).mono ?_⟩; rintro e w1 ⟨A', c', rfl, ho, hx1⟩))
  obtain ⟨Wm, hWm⟩ : ∃ Wm, ((w.alloc (.cells #[.int .i64 a] 3)).alloc (.map #[] 0)).alloc (.cells #[.map (some (w.heap.size + 1))] 171) = Wm := ⟨_, rfl⟩
  have hbm : Wm.cell? ⟨w.heap.size, 0, none⟩ = some (.int .i64 a) := by rw [← hWm]; simp [go_sem]
  have hpm : Wm.cell? ⟨w.heap.size + 1 + 1, 0, none⟩ = some (.map (some (w.heap.size + 1))) := by rw [← hWm]; simp [go_sem]
  have hMm : MapArc Wm (w.heap.size + 1) 0 a (fun _ => 0) := by
    rw [← hWm]
    have h := (MapArc.start (w.alloc (.cells #[.int .i64 a] 3)) a).ext (Ext.alloc (Ext.refl _) (.cells #[.map (some (w.heap.size + 1))] 171))
    simpa using h
  have hzm : Wm.heap.size = w.heap.size + 3 := by rw [← hWm]; simp
  rw [hWm] at hX0 q0 q1 q2 q3 ho hx1
  clear hWm q0 q1 q2 q3 hmm
  obtain ⟨W0, hW0⟩ : ∃ W0, w1.alloc (.cells #[.int .i64 0, .int .i64 0, .int .i64 0, .int .i64 0, .int .i64 0, .int .i64 0, .int .i64 0, .int .i64 0] 56) = W0 := ⟨_, rfl⟩
  have hX1 : Ext w1 W0 := by rw [← hW0]; exact Ext.alloc (Ext.refl _) _
  have hXm : Ext Wm W0 := hx1.trans hX1
  have hXw : Ext w W0 := hX0.trans hXm
  have hA0 : A8 W0 w1.heap.size (fillTo 0) := by
    unfold A8
    rw [← hW0]
    exact World.alloc_heap_new _ _
  have hz1 := hx1.size
  have hz0 : W0.heap.size = w1.heap.size + 1 := by rw [← hW0]; simp
  have hb0 := hXm.cell hbm
  have hp0 := hXm.cell hpm
  have hM0 := hMm.ext hXm
  have hBa : Bounds W0 A' c.all := (Rd.of_own ho).ext hX1
  have HAB : Hid (∀ p, A' = some p → Wm.heap.size ≤ p.block ∧ p.block < w1.heap.size) := own_block_lt ho
  rw [hzm] at HAB
  rw [hW0]
  clear hW0 ho hbm hpm hMm
  obtain ⟨BB, hBB⟩ : ∃ BB, w1.heap.size = BB := ⟨_, rfl⟩
  have hBw : w.heap.size + 3 ≤ BB := by omega
  have hDw : D < w.heap.size := hD.lt
  rw [hBB] at hA0 hz0 HAB ⊢
  clear hBB hx1 hX1 hz1
  have NS : ∀ {k : Nat}, k ≠ BB → k ≠ w.heap.size + 1 → ¬ (k = BB ∨ k = w.heap.size + 1) := fun h1 h2 h => h.elim h1 h2
  have FX0 : Hid (∀ w', BelS (fun k => k = BB ∨ k = w.heap.size + 1) W0 w' → w'.cell? ⟨w.heap.size, 0, none⟩ = some (.int .i64 a) ∧ w'.cell? ⟨w.heap.size + 1 + 1, 0, none⟩ = some (.map (some (w.heap.size + 1))) ∧ w'.cell? ⟨D, 0, none⟩ = some (.int .i64 c.ev) ∧ w'.cell? ⟨D, 1, none⟩ = some (.slice A1 c.bs.length c1) ∧ w'.cell? ⟨D, 2, none⟩ = some (.int .i64 c.wi) ∧ w'.cell? ⟨D, 3, none⟩ = some (.slice A2 c.cl.length c2)) := fun w' h => by
    obtain ⟨d0, d1, d2, d3⟩ := FX.out _ hXw
    exact ⟨h.cell hb0 (by simp; omega), h.cell hp0 (by simp; omega), h.cell d0 (by simp; omega), h.cell d1 (by simp; omega), h.cell d2 (by simp; omega), h.cell d3 (by simp; omega)⟩
  clear hb0 hp0 FX
  gi_loopw [23] (fun i wr => ∃ (k : Nat), k ≤ 8 ∧ i = .int .i64 k ∧ A8 wr BB (fillTo k) ∧ BelS (fun k => k = BB ∨ k = w.heap.size + 1) W0 wr ∧ MapArc wr (w.heap.size + 1) 0 a (fun _ => 0)) (fun i _ => 8 - (intOf i).toNat)
  case atStart => exact ⟨0, Nat.zero_le _, rfl, hA0, BelS.refl _ _, hM0⟩
  case round =>
    obtain ⟨k, hk, rfl, hA, hbl, hM⟩ := hrel
    by_cases hlt : k < 8
    · have hlt' : (k : Int) < 8 := by omega
      have hcell := hA.at_ hlt
      have hfz := hA.frozen k
      gi_wp2
      go_roundw
      case rel => exact ⟨k + 1, by omega, by go_num, (hA.set k far).congr fun x hx => by (unfold fillTo upd1; by_cases e : x = k <;> (try subst e) <;> simp <;> omega), hbl.setCell _ _ (.inl rfl), hM.setCell _ _ (by simp; omega)⟩
      case measure => simp [intOf]; omega
    · have hlt' : ¬ (k : Int) < 8 := by omega
      obtain ⟨d0, d1, d2, d3, d4, d5⟩ := FX0.out _ hbl
      have hA := hA.congr (g := fun _ => far) fun x hx => by unfold fillTo; rw [if_pos (by omega)]
      have hcell := hA.at_ ha8
      have hfz := hA.frozen a
      have ha8' : (a : Int) < 8 := by omega
      obtain ⟨g0, g1, g2, g3, g4, g5⟩ := FX0.out _ (hbl.setCell ⟨BB, a, none⟩ (.int .i64 0) (.inl rfl))
      gi_wp2
      obtain ⟨W1, hW1⟩ : ∃ W1, wr.setCell ⟨BB, a, none⟩ (.int .i64 0) = W1 := ⟨_, rfl⟩
      have hA1 : A8 W1 BB (BS0 a).sm := by
        rw [← hW1]
        exact (hA.set a 0).congr fun x hx => by unfold upd1 BS0; by_cases e : x = a <;> simp [e]
      have hM1 : MapArc W1 (w.heap.size + 1) (0 * 52) a (BS0 a).by_ := by rw [← hW1]; exact hM.setCell _ _ (by simp; omega)
      have hb1 : BelS (fun k => k = BB ∨ k = w.heap.size + 1) W0 W1 := by rw [← hW1]; exact hbl.setCell _ _ (.inl rfl)
      rw [hW1]
      clear hW1 g0 g1 g2 g3 g4 g5 d0 d1 d2 d3 d4 d5 hcell hfz hA hM hbl hM0 hA0
      have hs1 : c.all.length ≤ 9223372036854775807 := by omega
      obtain ⟨L, hL⟩ : ∃ L, belNum allT c = L := ⟨_, rfl⟩
      have hLn : L = numFrom 0 c.all := by rw [← hL]; exact belNum_all c
      have hLl : L.length ≤ 52 := by rw [hLn, numFrom_length]; exact h52
      have HLk : Hid (∀ p ∈ L, p.2.ok) := fun p hp => hLok.out p.2 (by rw [hLn] at hp; exact numFrom_mem hp)
      refine wpIn_loop (fun act W => ∃ (kk : Nat) (y11 y37 y38 y39 y40 y41 y42 y43 y44 y82 y83 y84 y85 : Value) (ds : List Deferred) (s : RS), act = { tmps := (List.toArray ((.pointer (some ⟨D, 0, none⟩)) :: (.int .i64 (a : Int)) :: (.int .i64 (b : Int)) :: undef :: (.pointer (some ⟨w.heap.size, 0, none⟩)) :: undef :: (.slice none 0 0) :: (.pointer (some ⟨w.heap.size + 1 + 1, 0, none⟩)) :: (.slice A' c.all.length c') :: (.pointer (some ⟨BB, 0, none⟩)) :: u10 :: y11 :: undef :: undef :: undef :: undef :: (.map (some (w.heap.size + 1))) :: (.pointer (some ⟨D, 0, none⟩)) :: (.pointer (some ⟨D, 0, none⟩)) :: (.pointer (some ⟨D, 0, none⟩)) :: (.agg #[.int .i64 c.ev, .slice A1 c.bs.length c1, .int .i64 c.wi, .slice A2 c.cl.length c2]) :: (.slice A' c.all.length c') :: (.agg #[.int .i64 0, .int .i64 0, .int .i64 0, .int .i64 0, .int .i64 0, .int .i64 0, .int .i64 0, .int .i64 0]) :: (.int .i64 (k : Int)) :: (.bool false) :: u25 :: u26 :: u27 :: u28 :: (.int .i64 (a : Int)) :: (.pointer (some ⟨BB, a, none⟩)) :: (.pointer (some ⟨D, 0, none⟩)) :: (.pointer (some ⟨D, 0, none⟩)) :: (.pointer (some ⟨D, 0, none⟩)) :: (.pointer (some ⟨D, 0, none⟩)) :: (.int .i64 c.ev) :: (.int .i64 (kk : Int)) :: y37 :: y38 :: y39 :: y40 :: y41 :: y42 :: y43 :: y44 :: undef :: undef :: undef :: undef :: undef :: undef :: undef :: undef :: undef :: undef :: undef :: undef :: undef :: undef :: undef :: undef :: undef :: undef :: undef :: undef :: undef :: undef :: undef :: undef :: undef :: undef :: undef :: undef :: undef :: undef :: undef :: undef :: undef :: undef :: undef :: undef :: undef :: y82 :: y83 :: y84 :: y85 :: undef :: undef :: undef :: undef :: undef :: undef :: undef :: undef :: undef :: undef :: undef :: undef :: undef :: undef :: undef :: undef :: undef :: undef :: undef :: undef :: undef :: undef :: undef :: undef :: undef :: [])), defers := ds } ∧ kk ≤ N ∧ A8 W BB s.sm ∧ MapArc W (w.heap.size + 1) (kk * 52) a s.by_ ∧ BelS (fun k => k = BB ∨ k = w.heap.size + 1) W0 W ∧ Marks w.heap.size ds W ∧ RB kk s.sm ∧ Hid (brun L (N - kk) s = brun L N (BS0 a))) (fun act _ => N - (intOf (act.tmps.getD 36 undef)).toNat) ?h0 ?hr
      case h0 => exact ⟨0, _, _, _, _, _, _, _, _, _, _, _, _, _, [], BS0 a, rfl, Nat.zero_le _, hA1, hM1, hb1, Marks.nil _ _, RB.start, rfl⟩
      case hr =>
        rintro _ W ⟨kk, y11, y37, y38, y39, y40, y41, y42, y43, y44, y82, y83, y84, y85, ds, s, rfl, hkk, hA, hM, hbl, hm, hrb, HR⟩
        dsimp only
        have hDs := FX0.out _ hbl
        obtain ⟨e0, e1, e2, e3, e4, e5⟩ := hDs
        have hAlt := hA.lt
        have hMlt := hM.lt
        by_cases hlt : kk < N
        · have hlt' : (kk : Int) < c.ev := by omega
          gi_wp2_with (first
            | (refine wpListIn_load_cells rfl 56 (.tmp 9) rfl ⟨BB, 0, none⟩ rfl ((l8 s.sm).map (Value.int .i64)) (.array 8 3) hA.cells Try.underlying56 rfl (by rw [info8]; simp [l8_len]) ?_)
            | (refine wpListIn_store_new rfl 56 (.tmp 11) (.tmp 38) rfl W _ _ rfl rfl rfl (by rw [info8]; simp [l8_len]) (by simp [l8_len]) (l8_one s.sm) ?_))
          gi_wp2
          obtain ⟨V, hV⟩ : ∃ V, W.alloc (.cells ((l8 s.sm).map (Value.int .i64)).toArray 56) = V := ⟨_, rfl⟩
          have hxV : Ext W V := by rw [← hV]; exact Ext.alloc (Ext.refl _) _
          have hAw : A8 V W.heap.size s.sm := by unfold A8; rw [← hV]; exact World.alloc_heap_new _ _
          have hzV : V.heap.size = W.heap.size + 1 := by rw [← hV]; simp
          rw [hV]
          clear hV
          have hA' := hA
          unfold A8 at hA'
          have hA := hA.ext hxV
          have hM := hM.ext hxV
          have hbl := hbl.trans hxV.belS
          have hm := hm.bel (D := BB) hxV.bel hA'
          have FV : Hid (∀ w', Ext V w' → w'.cell? ⟨D, 0, none⟩ = some (.int .i64 c.ev) ∧ w'.cell? ⟨D, 1, none⟩ = some (.slice A1 c.bs.length c1) ∧ w'.cell? ⟨D, 2, none⟩ = some (.int .i64 c.wi) ∧ w'.cell? ⟨D, 3, none⟩ = some (.slice A2 c.cl.length c2)) := fun w' h => ⟨h.cell (hxV.cell e2), h.cell (hxV.cell e3), h.cell (hxV.cell e4), h.cell (hxV.cell e5)⟩
          clear e0 e1 e2 e3 e4 e5
          refine wpIn_wide.2 ?_
          refine wp_region_shut Ext (fun w' => Ext V w') (fun | 4 => some (fun v _ => v = .agg #[.func (.func 148) #[] #[]]) | 5 => some (fun v w' => ∃ P1 P2, v = .func (.func 149) #[] #[.pointer (some ⟨P1, 0, none⟩), .pointer (some ⟨P2, 0, none⟩)] ∧ V.heap.size ≤ P1 ∧ V.heap.size ≤ P2 ∧ w'.cell? ⟨P1, 1, none⟩ = some (.slice A1 c.bs.length c1) ∧ w'.cell? ⟨P1, 3, none⟩ = some (.slice A2 c.cl.length c2) ∧ w'.cell? ⟨P2, 0, none⟩ = some (.func (.func 148) #[] #[])) | _ => none) (by kernel_rfl) (by kernel_rfl) (fun _ _ h k => h.trans k) ?hTa (Ext.drew (Ext.refl V)) ?_
          case hTa =>
            intro i R hR
            match i, hR with
            | 4, hR => cases hR; exact fun _ _ _ h _ => h
            | 5, hR => cases hR; exact fun _ _ _ ⟨P1, P2, e1, e2, e3, e4, e5, e6⟩ k => ⟨P1, P2, e1, e2, e3, k.cell e4, k.cell e5, k.cell e6⟩
          refine wM_val ?ua0 rfl rfl Ext.refl (fun w2 hD9 => ?ha0) (fun pha0 => ?na0)
          case ha0 =>
            obtain ⟨d2, d3, d4, d5⟩ := FV.out w2 hD9.1
            go_simp; rfl
          simp only [Act.put, List.setIfInBounds_toArray, List.set_cons_succ, List.set_cons_zero, Nat.reduceAdd]
          refine wM_val ?ua1 rfl rfl Ext.refl (fun w2 hD9 => ?ha1) (fun pha1 => ?na1)
          case ha1 =>
            obtain ⟨d2, d3, d4, d5⟩ := FV.out w2 hD9.1
            go_simp; rfl
          simp only [Act.put, List.setIfInBounds_toArray, List.set_cons_succ, List.set_cons_zero, Nat.reduceAdd]
          refine wM_val ?ua2 rfl rfl Ext.refl (fun w2 hD9 => ?ha2) (fun pha2 => ?na2)
          case ha2 =>
            obtain ⟨d2, d3, d4, d5⟩ := FV.out w2 hD9.1
            go_simp; rfl
          simp only [Act.put, List.setIfInBounds_toArray, List.set_cons_succ, List.set_cons_zero, Nat.reduceAdd]
          refine wM_val ?ua3 rfl rfl Ext.refl (fun w2 hD9 => ?ha3) (fun pha3 => ?na3)
          case ha3 =>
            obtain ⟨d2, d3, d4, d5⟩ := FV.out w2 hD9.1
            go_simp; rfl
          simp only [Act.put, List.setIfInBounds_toArray, List.set_cons_succ, List.set_cons_zero, Nat.reduceAdd]
          refine wM_op _ rfl rfl (opens_call ?fa4 ?ga4 (fun w2 hD9 => ?ha4) (fun w2 hD9 => ?ca4)) (fun v4 hv4 => ?na4)
          case ha4 => go_simp; constructor <;> rfl
          case ca4 =>
            refine (everyone_any w2).mono ?_
            rintro e w3 ⟨rfl, hb3⟩
            exact ⟨_, rfl, hb3, rfl⟩
          obtain ⟨_, _, _, rfl⟩ := hv4
          simp only [Act.put, List.setIfInBounds_toArray, List.set_cons_succ, List.set_cons_zero, Nat.reduceAdd]
          refine wM_op _ rfl rfl (opens_call ?fa5 ?ga5 (fun w2 hD9 => ?ha5) (fun w2 hD9 => ?ca5)) (fun v5 hv5 => ?na5)
          case ha5 => go_simp; constructor <;> rfl
          case ca5 =>
            refine (believed_any _ _ (.func (.func 148) #[] #[]) c w2 rfl ⟨_, _, _, rfl⟩ A1 A2 c1 c2 rfl).mono ?_
            rintro e w3 ⟨rfl, rfl⟩
            exact ⟨_, rfl, Ext.alloc (Ext.alloc (Ext.refl _) _) _, w2.heap.size, w2.heap.size + 1, rfl, hD9.1.size, Nat.le_succ_of_le hD9.1.size, by simp [go_sem], by simp [go_sem], by simp [go_sem]⟩
          obtain ⟨_, -, -, P1, P2, rfl, -⟩ := hv5
          simp only [Act.put, List.setIfInBounds_toArray, List.set_cons_succ, List.set_cons_zero, Nat.reduceAdd]
          refine wM_nil ?_
          intro w9 hw9 hF9
          obtain ⟨-, Q1, Q2, e9, f1, f2, f3, f4, f5⟩ := hF9 5
          cases e9
          clear hF9 FV
          have hsz9 := hw9.size
          have hA0' := hA
          unfold A8 at hA0'
          have hA := hA.ext hw9
          have hAw := hAw.ext hw9
          have hM := hM.ext hw9
          have hbl := hbl.trans hw9.belS
          have hm := hm.bel (D := BB) hw9.bel hA0'
          have hxw9 : Ext w w9 := BelS.ext (BelS.trans hXw.belS hbl) (fun k hk => NS (by omega) (by omega))
          have hBt := hA.lt
          gi_wp2
          refine wpIn_rangeFunc_ownH (F := Fence.wide) (n := 9) rfl (by omega) (gf := 149) (lb := #[.pointer (some ⟨P1, 0, none⟩), .pointer (some ⟨P2, 0, none⟩)]) rfl trivial (enters_of Try.func149 (by kernel_rfl) rfl)
            (believed_stops _ P1 P2 BB c allT (.func (.func 148) #[] #[]) w w9 A1 A2 c1 c2 hB hC (everyone_fn w) (by omega) (by omega) (by omega) hs1 hs.2.1 hxw9.kc (by omega) f3 f4 f5) Cel.trans cel_b (Below.refl _ _) (fun _ => rfl)
            (fun pre W' => A8 W' BB (bpass s.sm s (pre.map (·.1))).sm ∧ MapArc W' (w.heap.size + 1) (kk * 52 + pre.length) a (bpass s.sm s (pre.map (·.1))).by_ ∧ BelS (fun k => k = BB ∨ k = w.heap.size + 1) w9 W') (fun _ _ _ => False)
            (row_own (by omega)) (fun _ _ _ _ _ hs _ _ => hs) ⟨hA, hM, BelS.refl _ _⟩
            (fun x a' W' => ∃ Bx, w9.heap.size ≤ Bx ∧ BdBox W' Bx x.1.2 ∧ a' = { tmps := (List.toArray ((.pointer (some ⟨D, 0, none⟩)) :: (.int .i64 (a : Int)) :: (.int .i64 (b : Int)) :: undef :: (.pointer (some ⟨w.heap.size, 0, none⟩)) :: undef :: (.slice none 0 0) :: (.pointer (some ⟨w.heap.size + 1 + 1, 0, none⟩)) :: (.slice A' c.all.length c') :: (.pointer (some ⟨BB, 0, none⟩)) :: u10 :: (.pointer (some ⟨W.heap.size, 0, none⟩)) :: (.int .i64 (x.1.1 : Int)) :: (.pointer (some ⟨Bx, 0, none⟩)) :: undef :: undef :: (.map (some (w.heap.size + 1))) :: (.pointer (some ⟨D, 0, none⟩)) :: (.pointer (some ⟨D, 0, none⟩)) :: (.pointer (some ⟨D, 0, none⟩)) :: (.agg #[.int .i64 c.ev, .slice A1 c.bs.length c1, .int .i64 c.wi, .slice A2 c.cl.length c2]) :: (.slice A' c.all.length c') :: (.agg #[.int .i64 0, .int .i64 0, .int .i64 0, .int .i64 0, .int .i64 0, .int .i64 0, .int .i64 0, .int .i64 0]) :: (.int .i64 (k : Int)) :: (.bool false) :: u25 :: u26 :: u27 :: u28 :: (.int .i64 (a : Int)) :: (.pointer (some ⟨BB, a, none⟩)) :: (.pointer (some ⟨D, 0, none⟩)) :: (.pointer (some ⟨D, 0, none⟩)) :: (.pointer (some ⟨D, 0, none⟩)) :: (.pointer (some ⟨D, 0, none⟩)) :: (.int .i64 c.ev) :: (.int .i64 (kk : Int)) :: (.bool true) :: (.agg ((l8 s.sm).map (Value.int .i64)).toArray) :: (.pointer (some ⟨D, 0, none⟩)) :: (.pointer (some ⟨D, 0, none⟩)) :: (.pointer (some ⟨D, 0, none⟩)) :: (.agg #[.int .i64 c.ev, .slice A1 c.bs.length c1, .int .i64 c.wi, .slice A2 c.cl.length c2]) :: (.agg #[.func (.func 148) #[] #[]]) :: (.func (.func 149) #[] #[.pointer (some ⟨P1, 0, none⟩), .pointer (some ⟨P2, 0, none⟩)]) :: (.int .i64 (x.1.1 : Int)) :: x.1.2.val :: undef :: undef :: undef :: undef :: undef :: undef :: undef :: undef :: undef :: undef :: undef :: undef :: undef :: undef :: undef :: undef :: undef :: undef :: undef :: undef :: undef :: undef :: undef :: undef :: undef :: undef :: undef :: undef :: undef :: undef :: undef :: undef :: undef :: undef :: undef :: y82 :: y83 :: y84 :: y85 :: undef :: undef :: undef :: undef :: undef :: undef :: undef :: undef :: undef :: undef :: undef :: undef :: undef :: undef :: undef :: undef :: undef :: undef :: undef :: undef :: undef :: undef :: undef :: undef :: undef :: [])), defers := [] })
            (fun x a' _ X Y row hs hg hr => by obtain ⟨Bx, h1, h2, h3⟩ := hs; exact ⟨Bx, h1, own_bdbox _ Bx x.1.2 () X Y row h2 hg hr, h3⟩)
            ?assign ?body ?done ?stop
          case assign =>
            rintro lv pre x W' K ⟨i1, i2, i3⟩ hK
            have hs2 := i3.size
            obtain ⟨⟨nn, ⟨f, t, m⟩⟩, hx⟩ := x
            simp only [encNB, Bd.val] at *
            gi_wp2
            refine hK _ _ ((KeepsOthers.alloc _ _).from _) (Ext.cel (Ext.alloc (Ext.refl _) _)) ⟨i1.ext (Ext.alloc (Ext.refl _) _), i2.ext (Ext.alloc (Ext.refl _) _), i3.alloc _⟩ ⟨W'.heap.size, by omega, World.alloc_heap_new _ _, ?_⟩
            rfl
          case body =>
            rintro lv pre x a' W' hl ⟨r, hr⟩ ⟨i1, i2, i3⟩ ⟨Bx, hBx, hXb, rfl⟩ hlt2
            obtain ⟨⟨nn, ⟨f, t, m⟩⟩, hx⟩ := x
            have hxL : (nn, (⟨f, t, m⟩ : Bd)) ∈ L := by rw [← hL]; exact hx
            have hnn := numFrom_lt (by rw [hLn] at hxL; exact hxL)
            have hbk := HLk.out _ hxL
            have hpL : pre.length ≤ 52 := by have e := congrArg List.length hL; omega
            have hrp := hrb.pass (pre.map (·.1)) s (hrb.mono (Nat.le_succ _)) (fun p hp => by
              obtain ⟨y, _, rfl⟩ := List.mem_map.1 hp
              exact HLk.out _ (by rw [← hL]; exact y.2))
            obtain ⟨sp, hsp⟩ : ∃ sp, bpass s.sm s (pre.map (·.1)) = sp := ⟨_, rfl⟩
            have hsn : ∀ q : NB (belNum allT c), q.1 = (nn, ⟨f, t, m⟩) → bpass s.sm s ((pre ++ [q]).map (·.1)) = bstep s.sm sp (nn, ⟨f, t, m⟩) := fun q hq => by
              rw [List.map_append, ← hsp, ← hq]; exact bpass_snoc _ _ _ _
            rw [hsp] at i1 i2 hrp
            obtain ⟨⟨f0, f8⟩, ⟨t0, t8⟩, m0, m1⟩ := hbk
            simp only at f0 f8 t0 t8 m0 m1 hnn
            obtain ⟨fn, rfl⟩ : ∃ k : Nat, f = k := ⟨f.toNat, by omega⟩
            obtain ⟨tn, rfl⟩ : ∃ k : Nat, t = k := ⟨t.toNat, by omega⟩
            have hfn : fn < 8 := by omega
            have htn : tn < 8 := by omega
            have rz := hrb fn hfn
            have ry := hrp tn htn
            obtain ⟨e0, e1, e2⟩ := hXb.cells
            simp only at e0 e1 e2
            have qw := (hAw.belS i3 (NS (by omega) (by omega))).at_ hfn
            have qb := i1.at_ htn
            obtain ⟨z, hzz⟩ : ∃ z, s.sm fn = z := ⟨_, rfl⟩
            obtain ⟨y, hyy⟩ : ∃ y, sp.sm tn = y := ⟨_, rfl⟩
            rw [hzz] at rz qw
            rw [hyy] at ry qb
            unfold far at rz ry
            have hwr : IntKind.i64.wrap (z + m) = z + m := IntWalk.i64_in _ ⟨by omega, by omega⟩
            have FY : Hid (∀ w', Ext W' w' → w'.cell? ⟨Bx, 0, none⟩ = some (.int .i64 (fn : Int)) ∧ w'.cell? ⟨Bx, 1, none⟩ = some (.int .i64 (tn : Int)) ∧ w'.cell? ⟨Bx, 2, none⟩ = some (.int .i64 m) ∧ w'.cell? ⟨W.heap.size, fn, none⟩ = some (.int .i64 z) ∧ w'.cell? ⟨BB, tn, none⟩ = some (.int .i64 y)) :=
              fun w' h => ⟨h.cell e0, h.cell e1, h.cell e2, h.cell qw, h.cell qb⟩
            clear e0 e1 e2 qw qb
            simp only [Bd.val]
            gi_wp2
            refine wpIn_region_shut Ext (fun w' => Ext W' w') (fun _ => none) (by kernel_rfl) (by kernel_rfl) (fun _ _ h k => h.trans k) (fun i R h => by cases h) (Ext.drew (Ext.refl W')) ?_
            obtain ⟨q, hq⟩ : ∃ q : Bool, (z != 1099511627776) = q := ⟨_, rfl⟩
            have HQ := hid hq
            have HZZ := hid hzz
            clear hq
            refine wM_val ?ub0 rfl rfl Ext.refl (fun w2 hD9 => ?hb0) (fun phb0 => ?nb0)
            case hb0 =>
              obtain ⟨d0, d1, d2, dw, dx⟩ := FY.out w2 hD9.1
              go_simp; rfl
            simp only [Act.put, List.setIfInBounds_toArray, List.set_cons_succ, List.set_cons_zero, Nat.reduceAdd]
            refine wM_val ?ub1 rfl rfl Ext.refl (fun w2 hD9 => ?hb1) (fun phb1 => ?nb1)
            case hb1 =>
              obtain ⟨d0, d1, d2, dw, dx⟩ := FY.out w2 hD9.1
              go_simp; rfl
            simp only [Act.put, List.setIfInBounds_toArray, List.set_cons_succ, List.set_cons_zero, Nat.reduceAdd]
            refine wM_val ?ub2 rfl rfl Ext.refl (fun w2 hD9 => ?hb2) (fun phb2 => ?nb2)
            case hb2 =>
              obtain ⟨d0, d1, d2, dw, dx⟩ := FY.out w2 hD9.1
              go_simp; rfl
            simp only [Act.put, List.setIfInBounds_toArray, List.set_cons_succ, List.set_cons_zero, Nat.reduceAdd]
            refine wM_val ?ub3 rfl rfl Ext.refl (fun w2 hD9 => ?hb3) (fun phb3 => ?nb3)
            case hb3 =>
              obtain ⟨d0, d1, d2, dw, dx⟩ := FY.out w2 hD9.1
              go_simp; rfl
            simp only [Act.put, List.setIfInBounds_toArray, List.set_cons_succ, List.set_cons_zero, Nat.reduceAdd]
            refine wM_val (.bool q) rfl rfl Ext.refl (fun w2 hD9 => ?hb4) (fun phb4 => ?nb4)
            case hb4 =>
              obtain ⟨d0, d1, d2, dw, dx⟩ := FY.out w2 hD9.1
              go_simp
              all_goals first | (simp only [HQ.out]; done) | (rw [HQ.out]; done) | (simp [HQ.out]; done)
            simp only [Act.put, List.setIfInBounds_toArray, List.set_cons_succ, List.set_cons_zero, Nat.reduceAdd]
            refine wM_val ?ub5 rfl rfl Ext.refl (fun w2 hD9 => ?hb5) (fun phb5 => ?nb5)
            case hb5 =>
              obtain ⟨d0, d1, d2, dw, dx⟩ := FY.out w2 hD9.1
              go_simp; rfl
            simp only [Act.put, List.setIfInBounds_toArray, List.set_cons_succ, List.set_cons_zero, Nat.reduceAdd]
            cases q
            · have hfar : s.sm fn = far := by have h := HQ.out; rw [hzz]; unfold far; simpa using h
              have hst := hsn ⟨(nn, ⟨(fn : Int), (tn : Int), m⟩), hx⟩ rfl
              rw [bstep_no (fun h => h.1 hfar)] at hst
              have HST := hid hst
              clear hst hfar
              refine wM_skip rfl ?_
              simp only [Act.put, List.setIfInBounds_toArray, List.set_cons_succ, List.set_cons_zero, Nat.reduceAdd]
              refine wM_skip rfl ?_
              simp only [Act.put, List.setIfInBounds_toArray, List.set_cons_succ, List.set_cons_zero, Nat.reduceAdd]
              refine wM_skip rfl ?_
              simp only [Act.put, List.setIfInBounds_toArray, List.set_cons_succ, List.set_cons_zero, Nat.reduceAdd]
              refine wM_skip rfl ?_
              simp only [Act.put, List.setIfInBounds_toArray, List.set_cons_succ, List.set_cons_zero, Nat.reduceAdd]
              refine wM_skip rfl ?_
              simp only [Act.put, List.setIfInBounds_toArray, List.set_cons_succ, List.set_cons_zero, Nat.reduceAdd]
              refine wM_skip rfl ?_
              simp only [Act.put, List.setIfInBounds_toArray, List.set_cons_succ, List.set_cons_zero, Nat.reduceAdd]
              refine wM_skip rfl ?_
              simp only [Act.put, List.setIfInBounds_toArray, List.set_cons_succ, List.set_cons_zero, Nat.reduceAdd]
              refine wM_skip rfl ?_
              simp only [Act.put, List.setIfInBounds_toArray, List.set_cons_succ, List.set_cons_zero, Nat.reduceAdd]
              refine wM_skip rfl ?_
              simp only [Act.put, List.setIfInBounds_toArray, List.set_cons_succ, List.set_cons_zero, Nat.reduceAdd]
              refine wM_skip rfl ?_
              simp only [Act.put, List.setIfInBounds_toArray, List.set_cons_succ, List.set_cons_zero, Nat.reduceAdd]
              refine wM_skip rfl ?_
              simp only [Act.put, List.setIfInBounds_toArray, List.set_cons_succ, List.set_cons_zero, Nat.reduceAdd]
              refine wM_skip rfl ?_
              simp only [Act.put, List.setIfInBounds_toArray, List.set_cons_succ, List.set_cons_zero, Nat.reduceAdd]
              refine wM_val ?ue18 rfl rfl Ext.refl (fun w2 hD9 => ?he18) (fun phe18 => ?ne18)
              case he18 =>
                obtain ⟨d0, d1, d2, dw, dx⟩ := FY.out w2 hD9.1
                go_simp; rfl
              simp only [Act.put, List.setIfInBounds_toArray, List.set_cons_succ, List.set_cons_zero, Nat.reduceAdd]
              refine wM_nil ?_
              intro x9 hx9 hF9
              have hb9 := Ext.belS (S := fun k => k = BB ∨ k = w.heap.size + 1) hx9
              gi_wp2
              refine ⟨⟨hb9.size, fun kk o h1 hk ho => hb9.heap hk (NS (by omega) (by omega))⟩, i2.cel hb9, ?_⟩
              dsimp only
              rw [HST.out]
              exact ⟨i1.ext hx9, (i2.ext hx9).mono (by simp only [List.length_append, List.length_singleton]; omega), i3.trans hb9⟩
            · have hfar : ¬ z = far := by have h := HQ.out; unfold far; simpa using h
              refine wM_val ?uc6 rfl rfl Ext.refl (fun w2 hD9 => ?hc6) (fun phc6 => ?nc6)
              case hc6 =>
                obtain ⟨d0, d1, d2, dw, dx⟩ := FY.out w2 hD9.1
                go_simp; rfl
              simp only [Act.put, List.setIfInBounds_toArray, List.set_cons_succ, List.set_cons_zero, Nat.reduceAdd]
              refine wM_val ?uc7 rfl rfl Ext.refl (fun w2 hD9 => ?hc7) (fun phc7 => ?nc7)
              case hc7 =>
                obtain ⟨d0, d1, d2, dw, dx⟩ := FY.out w2 hD9.1
                go_simp; rfl
              simp only [Act.put, List.setIfInBounds_toArray, List.set_cons_succ, List.set_cons_zero, Nat.reduceAdd]
              refine wM_val ?uc8 rfl rfl Ext.refl (fun w2 hD9 => ?hc8) (fun phc8 => ?nc8)
              case hc8 =>
                obtain ⟨d0, d1, d2, dw, dx⟩ := FY.out w2 hD9.1
                go_simp; rfl
              simp only [Act.put, List.setIfInBounds_toArray, List.set_cons_succ, List.set_cons_zero, Nat.reduceAdd]
              refine wM_val ?uc9 rfl rfl Ext.refl (fun w2 hD9 => ?hc9) (fun phc9 => ?nc9)
              case hc9 =>
                obtain ⟨d0, d1, d2, dw, dx⟩ := FY.out w2 hD9.1
                go_simp; rfl
              simp only [Act.put, List.setIfInBounds_toArray, List.set_cons_succ, List.set_cons_zero, Nat.reduceAdd]
              refine wM_val ?uc10 rfl rfl Ext.refl (fun w2 hD9 => ?hc10) (fun phc10 => ?nc10)
              case hc10 =>
                obtain ⟨d0, d1, d2, dw, dx⟩ := FY.out w2 hD9.1
                go_simp; rfl
              simp only [Act.put, List.setIfInBounds_toArray, List.set_cons_succ, List.set_cons_zero, Nat.reduceAdd]
              refine wM_val ?uc11 rfl rfl Ext.refl (fun w2 hD9 => ?hc11) (fun phc11 => ?nc11)
              case hc11 =>
                obtain ⟨d0, d1, d2, dw, dx⟩ := FY.out w2 hD9.1
                go_simp; rfl
              simp only [Act.put, List.setIfInBounds_toArray, List.set_cons_succ, List.set_cons_zero, Nat.reduceAdd]
              refine wM_val ?uc12 rfl rfl Ext.refl (fun w2 hD9 => ?hc12) (fun phc12 => ?nc12)
              case hc12 =>
                obtain ⟨d0, d1, d2, dw, dx⟩ := FY.out w2 hD9.1
                go_simp; rfl
              simp only [Act.put, List.setIfInBounds_toArray, List.set_cons_succ, List.set_cons_zero, Nat.reduceAdd]
              refine wM_val ?uc13 rfl rfl Ext.refl (fun w2 hD9 => ?hc13) (fun phc13 => ?nc13)
              case hc13 =>
                obtain ⟨d0, d1, d2, dw, dx⟩ := FY.out w2 hD9.1
                go_simp; rfl
              simp only [Act.put, List.setIfInBounds_toArray, List.set_cons_succ, List.set_cons_zero, Nat.reduceAdd]
              refine wM_val ?uc14 rfl rfl Ext.refl (fun w2 hD9 => ?hc14) (fun phc14 => ?nc14)
              case hc14 =>
                obtain ⟨d0, d1, d2, dw, dx⟩ := FY.out w2 hD9.1
                go_simp; rfl
              simp only [Act.put, List.setIfInBounds_toArray, List.set_cons_succ, List.set_cons_zero, Nat.reduceAdd]
              refine wM_val ?uc15 rfl rfl Ext.refl (fun w2 hD9 => ?hc15) (fun phc15 => ?nc15)
              case hc15 =>
                obtain ⟨d0, d1, d2, dw, dx⟩ := FY.out w2 hD9.1
                go_simp; rfl
              simp only [Act.put, List.setIfInBounds_toArray, List.set_cons_succ, List.set_cons_zero, Nat.reduceAdd]
              refine wM_val ?uc16 rfl rfl Ext.refl (fun w2 hD9 => ?hc16) (fun phc16 => ?nc16)
              case hc16 =>
                obtain ⟨d0, d1, d2, dw, dx⟩ := FY.out w2 hD9.1
                go_simp; rfl
              simp only [Act.put, List.setIfInBounds_toArray, List.set_cons_succ, List.set_cons_zero, Nat.reduceAdd]
              refine wM_val ?uc17 rfl rfl Ext.refl (fun w2 hD9 => ?hc17) (fun phc17 => ?nc17)
              case hc17 =>
                obtain ⟨d0, d1, d2, dw, dx⟩ := FY.out w2 hD9.1
                go_simp; rfl
              simp only [Act.put, List.setIfInBounds_toArray, List.set_cons_succ, List.set_cons_zero, Nat.reduceAdd]
              refine wM_val ?uc18 rfl rfl Ext.refl (fun w2 hD9 => ?hc18) (fun phc18 => ?nc18)
              case hc18 =>
                obtain ⟨d0, d1, d2, dw, dx⟩ := FY.out w2 hD9.1
                go_simp; rfl
              simp only [Act.put, List.setIfInBounds_toArray, List.set_cons_succ, List.set_cons_zero, Nat.reduceAdd]
              refine wM_nil ?_
              intro x9 hx9 hF9
              have hb9 := Ext.belS (S := fun k => k = BB ∨ k = w.heap.size + 1) hx9
              by_cases hless : z + m < y
              · have hst := hsn ⟨(nn, ⟨(fn : Int), (tn : Int), m⟩), hx⟩ rfl
                rw [bstep_yes (by rw [hzz]; exact hfar) (by rw [hzz, hyy]; exact hless), hzz] at hst
                have hld : decide (z + m < y) = true := by simpa using hless
                have HST := hid hst
                clear hst
                have hbW := hbl.trans i3
                gi_wp2
                refine wpIn_region_shut_tail Ext (fun w' => Ext x9 w') (fun _ => none) 10 (by kernel_rfl) (by kernel_rfl) (fun _ _ h k => h.trans k) (fun i R h => by cases h) (Ext.drew (Ext.refl x9)) ?_
                refine wM_val ?ud0 rfl rfl Ext.refl (fun w2 hD9 => ?hd0) (fun phd0 => ?nd0)
                case hd0 =>
                  obtain ⟨d0, d1, d2, dw, dx⟩ := FY.out w2 (hx9.trans hD9.1)
                  go_simp; rfl
                simp only [Act.put, List.setIfInBounds_toArray, List.set_cons_succ, List.set_cons_zero, Nat.reduceAdd]
                refine wM_val ?ud1 rfl rfl Ext.refl (fun w2 hD9 => ?hd1) (fun phd1 => ?nd1)
                case hd1 =>
                  obtain ⟨d0, d1, d2, dw, dx⟩ := FY.out w2 (hx9.trans hD9.1)
                  go_simp; rfl
                simp only [Act.put, List.setIfInBounds_toArray, List.set_cons_succ, List.set_cons_zero, Nat.reduceAdd]
                refine wM_val ?ud2 rfl rfl Ext.refl (fun w2 hD9 => ?hd2) (fun phd2 => ?nd2)
                case hd2 =>
                  obtain ⟨d0, d1, d2, dw, dx⟩ := FY.out w2 (hx9.trans hD9.1)
                  go_simp; rfl
                simp only [Act.put, List.setIfInBounds_toArray, List.set_cons_succ, List.set_cons_zero, Nat.reduceAdd]
                refine wM_val ?ud3 rfl rfl Ext.refl (fun w2 hD9 => ?hd3) (fun phd3 => ?nd3)
                case hd3 =>
                  obtain ⟨d0, d1, d2, dw, dx⟩ := FY.out w2 (hx9.trans hD9.1)
                  go_simp; rfl
                simp only [Act.put, List.setIfInBounds_toArray, List.set_cons_succ, List.set_cons_zero, Nat.reduceAdd]
                refine wM_val ?ud4 rfl rfl Ext.refl (fun w2 hD9 => ?hd4) (fun phd4 => ?nd4)
                case hd4 =>
                  obtain ⟨d0, d1, d2, dw, dx⟩ := FY.out w2 (hx9.trans hD9.1)
                  go_simp; rfl
                simp only [Act.put, List.setIfInBounds_toArray, List.set_cons_succ, List.set_cons_zero, Nat.reduceAdd]
                refine wM_val ?ud5 rfl rfl Ext.refl (fun w2 hD9 => ?hd5) (fun phd5 => ?nd5)
                case hd5 =>
                  obtain ⟨d0, d1, d2, dw, dx⟩ := FY.out w2 (hx9.trans hD9.1)
                  go_simp; rfl
                simp only [Act.put, List.setIfInBounds_toArray, List.set_cons_succ, List.set_cons_zero, Nat.reduceAdd]
                refine wM_val ?ud6 rfl rfl Ext.refl (fun w2 hD9 => ?hd6) (fun phd6 => ?nd6)
                case hd6 =>
                  obtain ⟨d0, d1, d2, dw, dx⟩ := FY.out w2 (hx9.trans hD9.1)
                  go_simp; rfl
                simp only [Act.put, List.setIfInBounds_toArray, List.set_cons_succ, List.set_cons_zero, Nat.reduceAdd]
                refine wM_val ?ud7 rfl rfl Ext.refl (fun w2 hD9 => ?hd7) (fun phd7 => ?nd7)
                case hd7 =>
                  obtain ⟨d0, d1, d2, dw, dx⟩ := FY.out w2 (hx9.trans hD9.1)
                  go_simp; rfl
                simp only [Act.put, List.setIfInBounds_toArray, List.set_cons_succ, List.set_cons_zero, Nat.reduceAdd]
                refine wM_val ?ud8 rfl rfl Ext.refl (fun w2 hD9 => ?hd8) (fun phd8 => ?nd8)
                case hd8 =>
                  obtain ⟨d0, d1, d2, dw, dx⟩ := FY.out w2 (hx9.trans hD9.1)
                  go_simp; rfl
                simp only [Act.put, List.setIfInBounds_toArray, List.set_cons_succ, List.set_cons_zero, Nat.reduceAdd]
                refine wM_val ?ud9 rfl rfl Ext.refl (fun w2 hD9 => ?hd9) (fun phd9 => ?nd9)
                case hd9 =>
                  obtain ⟨d0, d1, d2, dw, dx⟩ := FY.out w2 (hx9.trans hD9.1)
                  go_simp; rfl
                simp only [Act.put, List.setIfInBounds_toArray, List.set_cons_succ, List.set_cons_zero, Nat.reduceAdd]
                refine wM_nil ?_
                intro z9 hz9 hF9
                have hz9' : Ext W' z9 := hx9.trans hz9
                have i1z := i1.ext hz9'
                have cz := i1z.at_ htn
                have fz := i1z.frozen tn
                obtain ⟨W5, hW5⟩ : ∃ W5, z9.setCell ⟨BB, tn, none⟩ (.int .i64 (z + m)) = W5 := ⟨_, rfl⟩
                have hb5 : BelS (fun k => k = BB ∨ k = w.heap.size + 1) W' W5 := by rw [← hW5]; exact (Ext.belS hz9').setCell _ _ (.inl rfl)
                have i15 : A8 W5 BB (upd1 sp.sm tn (z + m)) := by rw [← hW5]; exact i1z.set tn (z + m)
                have i25 : MapArc W5 (w.heap.size + 1) (kk * 52 + pre.length) a sp.by_ := by rw [← hW5]; exact (i2.ext hz9').setCell _ _ (by simp; omega)
                obtain ⟨DM, hDM, hDA⟩ := i25
                have hDI := hDM.isMap
                obtain ⟨ga, gp, -, -, -, -⟩ := FX0.out W5 (hbW.trans hb5)
                obtain ⟨-, gt, -, -, -⟩ := FY.out z9 hz9'
                have gt5 : W5.cell? ⟨Bx, 1, none⟩ = some (.int .i64 (tn : Int)) := by rw [← hW5]; exact ((BelS.refl (fun k => k = BB) z9).setCell ⟨BB, tn, none⟩ (.int .i64 (z + m)) rfl).cell gt (by simp; omega)
                have hkey := keyOf_arc (wf8 ha8) (wf8 htn)
                have hpl := plainElem_int (H := Unit) Try.underlying3 (show (Lit.int .i64 (nn : Int)).wf = true from WalkArith.wf_i64 (by omega))
                have hmx : kk * 52 + pre.length < maxLen := by unfold maxLen; omega
                have HDM := hid hDM
                clear gt hDM
                simp only [List.drop_succ_cons, List.drop_zero]
                gi_wp2_with (gi_at_mapUpdate; refine wpListIn_mapUpdate_own _ rfl _ _ _ 171 rfl 176 3 keyArc Try.underlying171 _ (w.heap.size + 1) (kk * 52 + pre.length) DM rfl HDM.out hmx _ _ _ rfl rfl hkey _ [] hpl ?_)
                intro w6 hown6 hgrow6
                have hb6 : BelS (fun k => k = BB ∨ k = w.heap.size + 1) W' w6 := hb5.grown hgrow6 (fun k e => .inr (Option.some.inj e).symm)
                have HOWN := hid hown6
                clear hown6
                gi_wp2
                refine ⟨⟨hb6.size, fun kk o h1 hk ho => hb6.heap hk (NS (by omega) (by omega))⟩, i2.cel hb6, ?_⟩
                dsimp only
                rw [HST.out]
                refine ⟨(hgrow6.block BB i15.lt (by simp; omega)).trans i15, ⟨_, by simpa [Nat.add_assoc] using HOWN.out, map_put ha8 hDI hDA htn nn⟩, i3.trans hb6⟩
              · have hst := hsn ⟨(nn, ⟨(fn : Int), (tn : Int), m⟩), hx⟩ rfl
                rw [bstep_no (fun h => hless (by have := h.2; rw [hzz, hyy] at this; exact this))] at hst
                have hld : decide (z + m < y) = false := by simpa using hless
                gi_wp2
                refine ⟨⟨hb9.size, fun kk o h1 hk ho => hb9.heap hk (NS (by omega) (by omega))⟩, i2.cel hb9, ?_⟩
                dsimp only
                rw [hst]
                exact ⟨i1.ext hx9, (i2.ext hx9).mono (by simp only [List.length_append, List.length_singleton]; omega), i3.trans hb9⟩
          case done =>
            rintro D3 xs W3 hD3 hxs ⟨i1, i2, i3⟩ hK3
            have hLx : L = xs.map (·.1) := by rw [← hL]; exact hxs.symm
            have hxl : xs.length ≤ 52 := by have e := congrArg List.length hLx; simp only [List.length_map] at e; omega
            rw [← hLx] at i1 i2
            have hb3 := hbl.trans i3
            have hAw3 := hAw.belS i3 (NS (by omega) (by omega))
            have hm3 := hm.consS i3 (fun k hk => by
              rcases hk with rfl | rfl
              · exact hA.nodef
              · exact hM.nodef) hK3 hD3 (by omega)
            have i2' := i2.mono (m := (kk + 1) * 52) (by omega)
            obtain ⟨e0, e1, -, -, -, -⟩ := FX0.out W3 hb3
            have hrb3 : RB (kk + 1) (bpass s.sm s L).sm := hrb.pass L s (hrb.mono (Nat.le_succ _)) (fun p hp => HLk.out p hp)
            obtain ⟨S3, hS3⟩ : ∃ S3, bpass s.sm s L = S3 := ⟨_, rfl⟩
            rw [hS3] at i1 i2' hrb3
            have HR3 : Hid (brun L (N - (kk + 1)) S3 = brun L N (BS0 a)) := by
              have h := HR.out
              rw [show N - kk = (N - (kk + 1)) + 1 by omega] at h
              rw [← hS3]; exact h
            by_cases hsame : l8 s.sm = l8 S3.sm
            · have hfx : S3 = s := by
                rw [← hS3]
                refine bpass_fix L s (fun p hp => HLk.out p hp) (fun x _ => Int.le_refl _) (fun x hx8 => ?_)
                rw [hS3]; exact (l8_eq hsame hx8).symm
              have HEND : Hid (S3 = endB c.all N a) := by
                have h := HR3.out
                rw [hfx] at h hS3
                rw [brun_fix _ hS3] at h
                unfold Hid
                rw [hfx, h, hLn]; rfl
              have heq : (Op.equalIn 10000 56 (.agg ((l8 s.sm).map (Value.int .i64)).toArray) (.agg ((l8 S3.sm).map (Value.int .i64)).toArray)).run Try.prog W3 = .ok true W3 := by
                have h := run_equalIn_arr1 W3 9998 56 3 .i64 8 Try.underlying56 Try.underlying3 (by kernel_rfl) cellsInt (l8 s.sm) (l8 S3.sm) (l8_len _) (l8_len _)
                rw [h]; simp [hsame]
              have HEQ := hid heq
              clear heq hfx hS3 hsame
              gi_wp2_with (first
                | (refine wpListIn_load_cells rfl 56 (.tmp 11) rfl ⟨W.heap.size, 0, none⟩ rfl ((l8 s.sm).map (Value.int .i64)) (.array 8 3) hAw3.cells Try.underlying56 rfl (by rw [info8]; simp [l8_len]) ?_)
                | (refine wpListIn_load_cells rfl 56 (.tmp 9) rfl ⟨BB, 0, none⟩ rfl ((l8 S3.sm).map (Value.int .i64)) (.array 8 3) i1.cells Try.underlying56 rfl (by rw [info8]; simp [l8_len]) ?_)
                | (refine wpListIn_eql_op rfl 56 56 (.tmp 82) (.tmp 83) rfl _ _ rfl rfl true (by kernel_rfl) HEQ.out ?_))
              have hMx := i2'
              have hbx := hb3
              have hmx := hm3
              clear i1 i2 i2' i3 hAw3 hrb3 HR3 HR hA hM hrb e0 e1
              gi_wp2
              obtain ⟨kb, hkb, hkb1, hkb2⟩ := HOK.out.back
              obtain ⟨SE, hSE⟩ : ∃ SE, endB c.all N a = SE := ⟨_, rfl⟩
              rw [hSE] at hkb1 hkb2 HEND
              obtain ⟨pf, hpf⟩ : ∃ pf, predR c.all SE = pf := ⟨_, rfl⟩
              rw [hpf] at hkb1 hkb2
              obtain ⟨fo, hfo⟩ : ∃ fo : Nat → Int, (fun j => (SE.by_ (iterN pf j b) : Int)) = fo := ⟨_, rfl⟩
              have HFO : Hid (∀ j, fo j = (SE.by_ (iterN pf j b) : Int)) := fun j => by rw [← hfo]
              have HRB : Hid ((List.range kb).map fo = rowBack c.all N a b) := by
                rw [← hfo]
                unfold Hid rowBack
                have hp := path_to (f := pf) (x := b) hkb1 (fun i hi => (hkb2 i hi).1) kb 0 (by omega) 8 (by omega)
                have h0 : iterN pf 0 b = b := rfl
                rw [h0] at hp
                rw [hSE, hpf, hp]
                simp [List.map_map, Function.comp_def]
              have HMK := hid hmx
              have HK1 := hid hkb1
              have HK2 := hid hkb2
              have HLN : Hid (rowL c.all N a b = (rowBack c.all N a b).reverse) := rfl
              clear hkb1 hkb2 hpf hSE hfo
              have hMl := hMx.lt
              obtain ⟨DM, hDM, hDA⟩ := hMx
              have hDA2 : ∀ x : Nat, x < 8 → DM.atKey (arcL a x) (.lit (.int .i64 0)) = .lit (.int .i64 ((SE.by_ x : Nat) : Int)) := by rw [← HEND.out]; exact hDA
              have HDA := hid hDA2
              have HDM := hid hDM
              clear hDA hDA2 hDM
              have hxW3 : Ext w W3 := BelS.ext (BelS.trans hXw.belS hbx) (fun k hk => NS (by omega) (by omega))
              obtain ⟨ga, gp, -, -, -, -⟩ := FX0.out W3 hbx
              have FZ : Hid (∀ w', Ext W3 w' → w'.cell? ⟨w.heap.size, 0, none⟩ = some (.int .i64 a) ∧ w'.cell? ⟨w.heap.size + 1 + 1, 0, none⟩ = some (.map (some (w.heap.size + 1)))) := fun w' h => ⟨h.cell ga, h.cell gp⟩
              have hBX : Bounds W3 A' c.all := hbx.rd hBa (fun p e => by have := HAB.out p e; exact NS (by omega) (by omega))
              clear ga gp
              refine wpIn_wide.2 ?_
              go_loopg [14, 15] kb (fun d o at_ wr => ∃ (i : Nat) (A2 : Option Addr) (cc : Nat), i + d = kb ∧ (i = 0 → A2 = none ∧ cc = 0) ∧ o = .slice A2 i cc ∧ at_ = .int .i64 (iterN pf i b : Int) ∧ Hid (wr.ownsRow W3.heap.size 3 1 (.slice A2 i cc) i (outC fo i)) ∧ Ext W3 wr)
              case atStart => exact ⟨0, none, 0, by omega, fun _ => ⟨rfl, rfl⟩, rfl, rfl, own_nil _ _ _ _, Ext.refl _⟩
              case round =>
                obtain ⟨i, A2, cc, hi, hnil, rfl, rfl, O, hx⟩ := hrel
                obtain ⟨fa, fp⟩ := FZ.out _ hx
                by_cases hd : i < kb
                · obtain ⟨hne, h8, x, hx1, hxf⟩ := HK2.out i hd
                  obtain ⟨z, hz⟩ : ∃ z, iterN pf i b = z := ⟨_, rfl⟩
                  have HZ := hid hz
                  rw [hz] at hne h8 hx1 ⊢
                  have hne' : ((z : Int) != (a : Int)) = true := by simp; omega
                  have hkey := keyOf_arc (wf8 ha8) (wf8 h8)
                  have HDX : Hid (wr.ownsMap Try.prog 176 (plainElem (H := Unit) Try.prog 3) (w.heap.size + 1) ((kk + 1) * 52) DM) := by
                    obtain ⟨es, cl, hb, F, hs, hD⟩ := HDM.out
                    exact ⟨es, cl, (Below.block hx (w.heap.size + 1) hMl).trans hb, F, hs, hD⟩
                  obtain ⟨bb, boff, hAeq, e0, e1, e2⟩ := hBX.at_ hx1
                  obtain ⟨yv, hyv⟩ : ∃ yv, SE.by_ z = yv := ⟨_, rfl⟩
                  have hDz := HDA.out z h8
                  rw [hyv] at hDz hx1 e0
                  have hyl : yv < c.all.length := (List.getElem?_eq_some_iff.1 hx1).1
                  have HXF := hid hxf
                  have HYV := hid hyv
                  have HLK : Hid (∀ cv : Int, DM.atKey (arcL a z) (.lit (.int .i64 0)) = .lit (.int .i64 cv) → cv = (yv : Int)) := fun cv h => by
                    rw [hDz] at h
                    cases h
                    rfl
                  have HAE := hid hAeq
                  clear hz hyv hDz hxf hx1 e1 e2 hAeq
                  have hsx := hx.size
                  have hi9 : (i + 1) * 8 ≤ 140737488355328 := by omega
                  have O2 := hid (own_below O.out (Ext.alloc (Ext.refl wr) (.cells #[.int .i64 (yv : Int)] 3)))
                  have hbase : W3.heap.size ≤ (wr.alloc (.cells #[.int .i64 (yv : Int)] 3)).heap.size := by simp; omega
                  clear O
                  go_wp2_with (first
                    | (at_lookup; refine wpList_lookup_own_int _ rfl _ _ 171 rfl 176 3 .i64 keyArc Try.underlying171 Try.underlying3 (zeroInt _) (w.heap.size + 1) ((kk + 1) * 52) DM rfl HDX.out _ _ rfl hkey ?_; intro cv hcv hcw; obtain rfl := HLK.out cv hcv; clear hcv hcw)
                    | (at_builtin; refine wpList_append_rd _ rfl _ _ 27 rfl elem_int W3.heap.size _ i (outC fo i) rfl O2.out _ 1 1 [.int .i64 (yv : Int)] rfl rfl (rd_block (heap_alloc_new wr _)) (by intro u hu; simp at hu; subst hu; rfl) hi9 hbase ?_))
                  intro A5 c5 w5 hown5 hbel5 _ _
                  have hx5 : Ext W3 w5 := Below.trans (Ext.alloc hx _) hbel5
                  obtain ⟨g5, rfl⟩ : ∃ g5, A5 = some ⟨g5, 0, none⟩ := own_some hown5
                  have hlc : w5.cell? ⟨g5, i, none⟩ = some (.int .i64 (yv : Int)) := by
                    have h := hown5.cells (g := g5) rfl i (.int .i64 (yv : Int)) (by rw [List.getElem?_append_right (by rw [outC_len]; omega), outC_len]; simp)
                    rw [Addr.add_lit, Nat.zero_add] at h
                    exact h
                  have e5 := hx5.cell e0
                  have hsl : A' = some ⟨bb, boff, none⟩ := HAE.out
                  have HO5 : Hid (w5.ownsRow W3.heap.size 3 1 (.slice (some ⟨g5, 0, none⟩) (i + 1) c5) (i + 1) (outC fo (i + 1))) := by
                    unfold Hid
                    rw [outC_succ, HFO.out, HZ.out, HYV.out]
                    exact hown5
                  have hw1 : IntKind.i64.wrap (((i + 1 : Nat) : Int) - 1) = (i : Int) := by rw [show ((i + 1 : Nat) : Int) - 1 = (i : Int) by omega]; exact IntWalk.i64_in _ ⟨by omega, by omega⟩
                  have hw2 : IntKind.i64.wrap ((i : Int) + 1 - 1) = (i : Int) := by rw [show (i : Int) + 1 - 1 = (i : Int) by omega]; exact IntWalk.i64_in _ ⟨by omega, by omega⟩
                  have hyl' : (yv : Int) < (c.all.length : Int) := by omega
                  clear hown5 e0
                  rw [hsl]
                  go_wp2
                  rw [← hsl]
                  go_roundg (gk - 1)
                  case measure => omega
                  case rel => exact ⟨i + 1, some ⟨g5, 0, none⟩, c5, by omega, fun h => absurd h (by omega), rfl, int_of (by rw [HXF.out]), HO5, hx5⟩
                · have hie : i = kb := by omega
                  subst hie
                  have hz : iterN pf i b = a := HK1.out
                  rw [hz]
                  have hne' : ((a : Int) != (a : Int)) = false := by simp
                  have hlen : (rowL c.all N a b).length = i := by rw [HLN.out, ← HRB.out]; simp
                  have HLE := hid hlen
                  have hsx := hx.size
                  have hwx := hxW3.size
                  clear hlen
                  go_wp2
                  by_cases hi0 : i = 0
                  · obtain ⟨rfl, rfl⟩ := hnil hi0
                    subst hi0
                    gi_wp2_with (first | (refine ⟨trivial, (callsIn_wide.2 (reverse_nil wr)).mono ?_⟩; rintro e w5 ⟨⟨v5, rfl⟩, rfl⟩))
                    have hm5 := HMK.out.belS (S := fun _ => False) (Ext.belS hx) (fun _ h => h.elim)
                    gi_wp2
                    refine leaves_marks (by simp) _ _ hm5 fun W' hb hc => ?_
                    refine ⟨_, results_tmp rfl _ _ _, none, 0, by rw [HLE.out]; rfl, ?_, Below.trans (hxW3.trans hx) hb⟩
                    have : rowL c.all N a b = [] := List.eq_nil_of_length_eq_zero HLE.out
                    rw [this]
                    exact Ints.nil _ _
                  · obtain ⟨m, rfl⟩ : ∃ m, i = m + 1 := ⟨i - 1, by omega⟩
                    obtain ⟨g, rfl⟩ : ∃ g, A2 = some ⟨g, 0, none⟩ := own_some O.out
                    have hgB := (O.out.lt g rfl).1
                    have hrow : RowN wr g (m + 1) fo := fun j hj => by
                      have h := O.out.cells (g := g) rfl j (.int .i64 (fo j)) (by simp [outC, hj])
                      rw [Addr.add_lit, Nat.zero_add] at h
                      exact ⟨h, O.out.frozenAt j⟩
                    have HRV := hid (reverse_any g (m + 1) cc fo wr hrow (by omega))
                    clear hrow
                    gi_wp2_with (first | (refine ⟨trivial, (callsIn_wide.2 HRV.out).mono ?_⟩; rintro e w5 ⟨⟨v5, rfl⟩, hb5, hr5⟩))
                    have hm5 := HMK.out.belS (S := fun k => k = g) ((Ext.belS hx).trans (hb5.belS (S := fun k => k = g) rfl)) (fun k h => by
                      have h1 : k = g := h
                      subst h1
                      rw [Array.getElem?_eq_none (by omega)]
                      intro e; cases e)
                    have hxw5 : Ext w w5 := (hxW3.trans hx).then_bel (by omega) hb5
                    have hI5 : Hid (Ints w5 (some ⟨g, 0, none⟩) (rowL c.all N a b)) := by
                      unfold Hid
                      rw [HLN.out, ← HRB.out]
                      refine .inr ⟨g, 0, rfl, fun j u hu => ?_⟩
                      rw [Nat.zero_add]
                      rw [List.getElem?_map, Option.map_eq_some_iff] at hu
                      obtain ⟨q, hq, rfl⟩ := hu
                      have hj : j < m + 1 := by have := (List.getElem?_eq_some_iff.1 hq).1; simpa using this
                      rw [(hr5 j hj).1]
                      rw [List.getElem?_reverse (by simpa using hj)] at hq
                      simp at hq
                      obtain ⟨y, hy1, hy2⟩ := hq
                      rw [List.getElem?_range (by omega)] at hy1
                      cases hy1
                      rw [← hy2]
                      rfl
                    gi_wp2
                    refine leaves_marks (by simp) _ _ hm5 fun W' hb hc => ?_
                    exact ⟨_, results_tmp rfl _ _ _, some ⟨g, 0, none⟩, cc, by rw [HLE.out]; rfl, hI5.out.kc (kc_of_cells hc), Below.trans hxw5 hb⟩
            · have heq : (Op.equalIn 10000 56 (.agg ((l8 s.sm).map (Value.int .i64)).toArray) (.agg ((l8 S3.sm).map (Value.int .i64)).toArray)).run Try.prog W3 = .ok false W3 := by
                have h := run_equalIn_arr1 W3 9998 56 3 .i64 8 Try.underlying56 Try.underlying3 (by kernel_rfl) cellsInt (l8 s.sm) (l8 S3.sm) (l8_len _) (l8_len _)
                rw [h]; simp [hsame]
              have HEQ := hid heq
              clear heq hsame hS3
              gi_wp2_with (first
                | (refine wpListIn_load_cells rfl 56 (.tmp 11) rfl ⟨W.heap.size, 0, none⟩ rfl ((l8 s.sm).map (Value.int .i64)) (.array 8 3) hAw3.cells Try.underlying56 rfl (by rw [info8]; simp [l8_len]) ?_)
                | (refine wpListIn_load_cells rfl 56 (.tmp 9) rfl ⟨BB, 0, none⟩ rfl ((l8 S3.sm).map (Value.int .i64)) (.array 8 3) i1.cells Try.underlying56 rfl (by rw [info8]; simp [l8_len]) ?_)
                | (refine wpListIn_eql_op rfl 56 56 (.tmp 82) (.tmp 83) rfl _ _ rfl rfl false (by kernel_rfl) HEQ.out ?_))
              clear e0 e1
              gi_wp2
              refine ⟨⟨kk + 1, _, _, _, _, _, _, _, _, _, _, _, _, _, _, S3, rfl, by omega, i1, i2', hb3, hm3, hrb3, HR3⟩, ?_⟩
              simp [intOf]
              omega
          case stop =>
            rintro D c pre W _ _ h _
            exact h.elim
        · have hlt' : ¬ (kk : Int) < c.ev := by omega
          have HEND : Hid (s = endB c.all N a) := by
            have h := HR.out
            rw [show N - kk = 0 by omega, hLn] at h
            exact h
          have hMx := hM
          have hbx := hbl
          have hmx := hm
          clear hA hM hrb HR
          gi_wp2
          clear e0 e1 e2 e3 e4 e5
          obtain ⟨kb, hkb, hkb1, hkb2⟩ := HOK.out.back
          obtain ⟨SE, hSE⟩ : ∃ SE, endB c.all N a = SE := ⟨_, rfl⟩
          rw [hSE] at hkb1 hkb2 HEND
          obtain ⟨pf, hpf⟩ : ∃ pf, predR c.all SE = pf := ⟨_, rfl⟩
          rw [hpf] at hkb1 hkb2
          obtain ⟨fo, hfo⟩ : ∃ fo : Nat → Int, (fun j => (SE.by_ (iterN pf j b) : Int)) = fo := ⟨_, rfl⟩
          have HFO : Hid (∀ j, fo j = (SE.by_ (iterN pf j b) : Int)) := fun j => by rw [← hfo]
          have HRB : Hid ((List.range kb).map fo = rowBack c.all N a b) := by
            rw [← hfo]
            unfold Hid rowBack
            have hp := path_to (f := pf) (x := b) hkb1 (fun i hi => (hkb2 i hi).1) kb 0 (by omega) 8 (by omega)
            have h0 : iterN pf 0 b = b := rfl
            rw [h0] at hp
            rw [hSE, hpf, hp]
            simp [List.map_map, Function.comp_def]
          have HMK := hid hmx
          have HK1 := hid hkb1
          have HK2 := hid hkb2
          have HLN : Hid (rowL c.all N a b = (rowBack c.all N a b).reverse) := rfl
          clear hkb1 hkb2 hpf hSE hfo
          have hMl := hMx.lt
          obtain ⟨DM, hDM, hDA⟩ := hMx
          have hDA2 : ∀ x : Nat, x < 8 → DM.atKey (arcL a x) (.lit (.int .i64 0)) = .lit (.int .i64 ((SE.by_ x : Nat) : Int)) := by rw [← HEND.out]; exact hDA
          have HDA := hid hDA2
          have HDM := hid hDM
          clear hDA hDA2 hDM
          have hxW : Ext w W := BelS.ext (BelS.trans hXw.belS hbx) (fun k hk => NS (by omega) (by omega))
          obtain ⟨ga, gp, -, -, -, -⟩ := FX0.out W hbx
          have FZ : Hid (∀ w', Ext W w' → w'.cell? ⟨w.heap.size, 0, none⟩ = some (.int .i64 a) ∧ w'.cell? ⟨w.heap.size + 1 + 1, 0, none⟩ = some (.map (some (w.heap.size + 1)))) := fun w' h => ⟨h.cell ga, h.cell gp⟩
          have hBX : Bounds W A' c.all := hbx.rd hBa (fun p e => by have := HAB.out p e; exact NS (by omega) (by omega))
          clear ga gp
          refine wpIn_wide.2 ?_
          go_loopg [14, 15] kb (fun d o at_ wr => ∃ (i : Nat) (A2 : Option Addr) (cc : Nat), i + d = kb ∧ (i = 0 → A2 = none ∧ cc = 0) ∧ o = .slice A2 i cc ∧ at_ = .int .i64 (iterN pf i b : Int) ∧ Hid (wr.ownsRow W.heap.size 3 1 (.slice A2 i cc) i (outC fo i)) ∧ Ext W wr)
          case atStart => exact ⟨0, none, 0, by omega, fun _ => ⟨rfl, rfl⟩, rfl, rfl, own_nil _ _ _ _, Ext.refl _⟩
          case round =>
            obtain ⟨i, A2, cc, hi, hnil, rfl, rfl, O, hx⟩ := hrel
            obtain ⟨fa, fp⟩ := FZ.out _ hx
            by_cases hd : i < kb
            · obtain ⟨hne, h8, x, hx1, hxf⟩ := HK2.out i hd
              obtain ⟨z, hz⟩ : ∃ z, iterN pf i b = z := ⟨_, rfl⟩
              have HZ := hid hz
              rw [hz] at hne h8 hx1 ⊢
              have hne' : ((z : Int) != (a : Int)) = true := by simp; omega
              have hkey := keyOf_arc (wf8 ha8) (wf8 h8)
              have HDX : Hid (wr.ownsMap Try.prog 176 (plainElem (H := Unit) Try.prog 3) (w.heap.size + 1) (kk * 52) DM) := by
                obtain ⟨es, cl, hb, F, hs, hD⟩ := HDM.out
                exact ⟨es, cl, (Below.block hx (w.heap.size + 1) hMl).trans hb, F, hs, hD⟩
              obtain ⟨bb, boff, hAeq, e0, e1, e2⟩ := hBX.at_ hx1
              obtain ⟨yv, hyv⟩ : ∃ yv, SE.by_ z = yv := ⟨_, rfl⟩
              have hDz := HDA.out z h8
              rw [hyv] at hDz hx1 e0
              have hyl : yv < c.all.length := (List.getElem?_eq_some_iff.1 hx1).1
              have HXF := hid hxf
              have HYV := hid hyv
              have HLK : Hid (∀ cv : Int, DM.atKey (arcL a z) (.lit (.int .i64 0)) = .lit (.int .i64 cv) → cv = (yv : Int)) := fun cv h => by
                rw [hDz] at h
                cases h
                rfl
              have HAE := hid hAeq
              clear hz hyv hDz hxf hx1 e1 e2 hAeq
              have hsx := hx.size
              have hi9 : (i + 1) * 8 ≤ 140737488355328 := by omega
              have O2 := hid (own_below O.out (Ext.alloc (Ext.refl wr) (.cells #[.int .i64 (yv : Int)] 3)))
              have hbase : W.heap.size ≤ (wr.alloc (.cells #[.int .i64 (yv : Int)] 3)).heap.size := by simp; omega
              clear O
              go_wp2_with (first
                | (at_lookup; refine wpList_lookup_own_int _ rfl _ _ 171 rfl 176 3 .i64 keyArc Try.underlying171 Try.underlying3 (zeroInt _) (w.heap.size + 1) (kk * 52) DM rfl HDX.out _ _ rfl hkey ?_; intro cv hcv hcw; obtain rfl := HLK.out cv hcv; clear hcv hcw)
                | (at_builtin; refine wpList_append_rd _ rfl _ _ 27 rfl elem_int W.heap.size _ i (outC fo i) rfl O2.out _ 1 1 [.int .i64 (yv : Int)] rfl rfl (rd_block (heap_alloc_new wr _)) (by intro u hu; simp at hu; subst hu; rfl) hi9 hbase ?_))
              intro A5 c5 w5 hown5 hbel5 _ _
              have hx5 : Ext W w5 := Below.trans (Ext.alloc hx _) hbel5
              obtain ⟨g5, rfl⟩ : ∃ g5, A5 = some ⟨g5, 0, none⟩ := own_some hown5
              have hlc : w5.cell? ⟨g5, i, none⟩ = some (.int .i64 (yv : Int)) := by
                have h := hown5.cells (g := g5) rfl i (.int .i64 (yv : Int)) (by rw [List.getElem?_append_right (by rw [outC_len]; omega), outC_len]; simp)
                rw [Addr.add_lit, Nat.zero_add] at h
                exact h
              have e5 := hx5.cell e0
              have hsl : A' = some ⟨bb, boff, none⟩ := HAE.out
              have HO5 : Hid (w5.ownsRow W.heap.size 3 1 (.slice (some ⟨g5, 0, none⟩) (i + 1) c5) (i + 1) (outC fo (i + 1))) := by
                unfold Hid
                rw [outC_succ, HFO.out, HZ.out, HYV.out]
                exact hown5
              have hw1 : IntKind.i64.wrap (((i + 1 : Nat) : Int) - 1) = (i : Int) := by rw [show ((i + 1 : Nat) : Int) - 1 = (i : Int) by omega]; exact IntWalk.i64_in _ ⟨by omega, by omega⟩
              have hw2 : IntKind.i64.wrap ((i : Int) + 1 - 1) = (i : Int) := by rw [show (i : Int) + 1 - 1 = (i : Int) by omega]; exact IntWalk.i64_in _ ⟨by omega, by omega⟩
              have hyl' : (yv : Int) < (c.all.length : Int) := by omega
              clear hown5 e0
              rw [hsl]
              go_wp2
              rw [← hsl]
              go_roundg (gk - 1)
              case measure => omega
              case rel => exact ⟨i + 1, some ⟨g5, 0, none⟩, c5, by omega, fun h => absurd h (by omega), rfl, int_of (by rw [HXF.out]), HO5, hx5⟩
            · have hie : i = kb := by omega
              subst hie
              have hz : iterN pf i b = a := HK1.out
              rw [hz]
              have hne' : ((a : Int) != (a : Int)) = false := by simp
              have hlen : (rowL c.all N a b).length = i := by rw [HLN.out, ← HRB.out]; simp
              have HLE := hid hlen
              have hsx := hx.size
              have hwx := hxW.size
              clear hlen
              go_wp2
              by_cases hi0 : i = 0
              · obtain ⟨rfl, rfl⟩ := hnil hi0
                subst hi0
                gi_wp2_with (first | (refine ⟨trivial, (callsIn_wide.2 (reverse_nil wr)).mono ?_⟩; rintro e w5 ⟨⟨v5, rfl⟩, rfl⟩))
                have hm5 := HMK.out.belS (S := fun _ => False) (Ext.belS hx) (fun _ h => h.elim)
                gi_wp2
                refine leaves_marks (by simp) _ _ hm5 fun W' hb hc => ?_
                refine ⟨_, results_tmp rfl _ _ _, none, 0, by rw [HLE.out]; rfl, ?_, Below.trans (hxW.trans hx) hb⟩
                have : rowL c.all N a b = [] := List.eq_nil_of_length_eq_zero HLE.out
                rw [this]
                exact Ints.nil _ _
              · obtain ⟨m, rfl⟩ : ∃ m, i = m + 1 := ⟨i - 1, by omega⟩
                obtain ⟨g, rfl⟩ : ∃ g, A2 = some ⟨g, 0, none⟩ := own_some O.out
                have hgB := (O.out.lt g rfl).1
                have hrow : RowN wr g (m + 1) fo := fun j hj => by
                  have h := O.out.cells (g := g) rfl j (.int .i64 (fo j)) (by simp [outC, hj])
                  rw [Addr.add_lit, Nat.zero_add] at h
                  exact ⟨h, O.out.frozenAt j⟩
                have HRV := hid (reverse_any g (m + 1) cc fo wr hrow (by omega))
                clear hrow
                gi_wp2_with (first | (refine ⟨trivial, (callsIn_wide.2 HRV.out).mono ?_⟩; rintro e w5 ⟨⟨v5, rfl⟩, hb5, hr5⟩))
                have hm5 := HMK.out.belS (S := fun k => k = g) ((Ext.belS hx).trans (hb5.belS (S := fun k => k = g) rfl)) (fun k h => by
                  have h1 : k = g := h
                  subst h1
                  rw [Array.getElem?_eq_none (by omega)]
                  intro e; cases e)
                have hxw5 : Ext w w5 := (hxW.trans hx).then_bel (by omega) hb5
                have hI5 : Hid (Ints w5 (some ⟨g, 0, none⟩) (rowL c.all N a b)) := by
                  unfold Hid
                  rw [HLN.out, ← HRB.out]
                  refine .inr ⟨g, 0, rfl, fun j u hu => ?_⟩
                  rw [Nat.zero_add]
                  rw [List.getElem?_map, Option.map_eq_some_iff] at hu
                  obtain ⟨q, hq, rfl⟩ := hu
                  have hj : j < m + 1 := by have := (List.getElem?_eq_some_iff.1 hq).1; simpa using this
                  rw [(hr5 j hj).1]
                  rw [List.getElem?_reverse (by simpa using hj)] at hq
                  simp at hq
                  obtain ⟨y, hy1, hy2⟩ := hq
                  rw [List.getElem?_range (by omega)] at hy1
                  cases hy1
                  rw [← hy2]
                  rfl
                gi_wp2
                refine leaves_marks (by simp) _ _ hm5 fun W' hb hc => ?_
                exact ⟨_, results_tmp rfl _ _ _, some ⟨g, 0, none⟩, cc, by rw [HLE.out]; rfl, hI5.out.kc (kc_of_cells hc), Below.trans hxw5 hb⟩
end Go.Proofs.Ytgnjhaomlbkgcaa

namespace Go.Proofs.Ytgnjhaomlbkgcaa
open Go Go.RowKit
set_option linter.unusedVariables false
set_option linter.unusedSimpArgs false

/-- The error of Row. -/
def rowC (c : Cs) (a b : Int) : Int := if askedC c [a, b] = 0 then (if gapsM allT c a.toNat b.toNat = far then 6 else 0) else askedC c [a, b]
def RowPost (w : World) (c : Cs) (a b : Int) (e : Ending) (w' : World) : Prop :=
  ∃ r, e = .returned (.tuple #[r, .int .i64 (rowC c a b)]) ∧ Ext w w' ∧ (rowC c a b ≠ 0 → r = .slice none 0 0) ∧
    (rowC c a b = 0 → ∃ A k, r = .slice A (rowL c.all c.ev.toNat a.toNat b.toNat).length k ∧ Ints w' A (rowL c.all c.ev.toNat a.toNat b.toNat))

set_option maxRecDepth 100000 in
set_option maxHeartbeats 1000000 in
theorem rowa_any (v : Value) (c : Cs) (a b : Int) (w : World) (hc : CsR w v c) (hs : c.sized) :
    Calls Try.prog 44 #[v, .int .i64 a, .int .i64 b] w (RowPost w c a b) := by
  have hc' := hc
  obtain ⟨A1, c1, A2, c2, rfl, hB, hC⟩ := hc
  have HF : Hid (rowC c a b = if askedC c [a, b] = 0 then (if gapsM allT c a.toNat b.toNat = far then 6 else 0) else askedC c [a, b]) := rfl
  have HK : Hid (askedC c [a, b] = 0 → gapsM allT c a.toNat b.toNat ≠ far → RowOK c.all c.ev.toNat a.toNat b.toNat (gapsM allT c a.toNat b.toNat)) := fun h hn => by
    obtain ⟨hc0, ht, hlt⟩ := askedC_parts h
    have ha := hlt a (by simp)
    have hb := hlt b (by simp)
    have hcl : clashM (gapsM allT c) = false := by
      unfold toldC at ht
      rw [if_pos hc0] at ht
      cases hq : clashM (gapsM allT c) with
      | false => rfl
      | true => rw [hq] at ht; cases ht
    have hf := fine_of hc0 hcl
    rw [belL_all] at hf
    exact row_ok hc0 hf (by omega) (by omega) hn
  go_enter Try.func44, Try.ntmps44
  go_wp2_with fail
  refine (asked_any _ c _ 2 [a, b] _ (hc'.ext ?hx) hs (ints_two _ _ a b (by simp [go_sem]) (by simp [go_sem])) (by simp)).mono ?_
  case hx => exact (Ext.alloc (Ext.alloc (Ext.refl w) _) _)
  rintro e w1 ⟨r, rfl, hb1, hr1, hr2⟩
  have hx1 : Ext w w1 := Ext.trans (Ext.alloc (Ext.alloc (Ext.refl w) _) _) hb1
  by_cases h0 : askedC c [a, b] = 0
  · have hr := hr1 h0
    obtain ⟨hc0, _, hlt⟩ := askedC_parts h0
    have HC0 := hid hc0
    obtain ⟨ev1, ev8⟩ := checkC_ev hc0
    have ha := hlt a (by simp)
    have hb := hlt b (by simp)
    have HK2 : Hid (gapsM allT c a.toNat b.toNat ≠ far → RowOK c.all c.ev.toNat a.toNat b.toNat (gapsM allT c a.toNat b.toNat)) := HK.out h0
    have HFa : Hid (gapsM allT c a.toNat b.toNat = far → rowC c a b = 6) := fun h => by rw [HF.out, if_pos h0, if_pos h]
    have HFb : Hid (gapsM allT c a.toNat b.toNat ≠ far → rowC c a b = 0) := fun h => by rw [HF.out, if_pos h0, if_neg h]
    rw [h0]
    clear hr1 hr2 h0 hlt hc0 HK HF
    obtain ⟨an, rfl⟩ : ∃ n : Nat, a = n := ⟨a.toNat, by omega⟩
    obtain ⟨bn, rfl⟩ : ∃ n : Nat, b = n := ⟨b.toNat, by omega⟩
    simp only [Int.toNat_natCast] at HFa HFb HK2
    have han : an < 8 := by omega
    have hbn : bn < 8 := by omega
    have han' : (an : Int) < 8 := by omega
    have hbn' : (bn : Int) < 8 := by omega
    have hr' := hr
    obtain ⟨D, B1, k1, B2, k2, rfl, hd, _, _⟩ := hr
    have hcell := hd.at_ han hbn
    have HDK := hid hr'
    clear hr'
    obtain ⟨G, hG⟩ : ∃ G, gapsM allT c an bn = G := ⟨_, rfl⟩
    rw [hG] at HFa HFb HK2 hcell
    clear hG
    by_cases hfar : G = 1099511627776
    · have HE : Hid (rowC c an bn = 6) := HFa.out (by simpa [far] using hfar)
      clear HFa HFb HK2
      go_wp2
      go_ret2
      exact ⟨.slice none 0 0, by rw [HE.out]; rfl, hx1, fun _ => rfl, fun h => by rw [HE.out] at h; cases h⟩
    · have HE : Hid (rowC c an bn = 0) := HFb.out (by simpa [far] using hfar)
      have HRK : Hid (RowOK c.all c.ev.toNat an bn G) := HK2.out (by simpa [far] using hfar)
      clear HFa HFb HK2
      go_wp2_with fail
      refine (row_any _ c _ an bn w1 HDK.out HC0.out ha.2 hb.2 hs G HRK.out).mono ?_
      rintro e w2 ⟨A, k, rfl, hI, hb2⟩
      have HI := hid hI
      clear hI
      go_wp2
      go_ret2
      exact ⟨.slice A (rowL c.all c.ev.toNat an bn).length k, by rw [HE.out]; rfl, hx1.trans hb2, fun h => absurd HE.out h, fun _ => ⟨A, k, rfl, HI.out⟩⟩
  · rw [if_neg h0] at HF
    have H0 := hid h0
    have hr := hr2 h0
    subst hr
    generalize hE : askedC c [a, b] = E at *
    clear hE hr1 hr2 HK
    go_wp2
    go_ret2
    exact ⟨.slice none 0 0, by rw [HF.out]; rfl, hx1, fun _ => rfl, fun h => absurd (HF.out.symm.trans h) H0.out⟩
end Go.Proofs.Ytgnjhaomlbkgcaa

namespace Go.Proofs.Ytgnjhaomlbkgcaa
open Go Go.RowKit
set_option linter.unusedVariables false
set_option linter.unusedSimpArgs false

theorem rows_err {c : Cs} {a b : Int} {W : Int} (hW : askedC c [a, b] = W) (h : W ≠ 0) : gapOf c a b = (0, W) ∧ rowC c a b = W ∧ beforeOf c a b = (0, W) ∧ askOf c a b = ((0, 0), W) := by
  unfold gapOf rowC beforeOf askOf
  rw [hW, if_neg h, if_neg h, if_neg h, if_neg h]
  exact ⟨rfl, rfl, rfl, rfl⟩
theorem asked_check {c : Cs} {a b : Int} (h : checkC c ≠ 0) : askedC c [a, b] = checkC c := by
  unfold askedC
  rw [if_neg h]
theorem asked_clash {c : Cs} {a b : Int} (h : checkC c = 0) (hc : clashM (gapsM allT c) = true) : askedC c [a, b] ≠ 0 := by
  intro h0
  have := (askedC_parts h0).2.1
  unfold toldC at this
  rw [if_pos h, hc] at this
  cases this
theorem gapsM_bel {c : Cs} (h0 : checkC c = 0) : gapsM (belT (rl c.wi.toNat fun _ => true)) c = gapsM allT c := by
  refine gaps_congr fun x hx => ?_
  have := wits h0 x hx
  unfold belT allT
  rw [List.getD_eq_getElem?_getD, rl_get _ (by omega)]
  rfl
theorem showsOf_row {c : Cs} (h0 : checkC c = 0) {a b : Nat} (ha : (a : Int) < c.ev) (hb : (b : Int) < c.ev) {g : Int} (hR : RowOK c.all c.ev.toNat a b g) : showsOf c a b (rowL c.all c.ev.toNat a b) = (g, 0) := by
  have hlen := nodup_short c.all.length _ hR.nodup hR.in_
  have hall : ((rowL c.all c.ev.toNat a b).all fun i => inB i 0 ((c.all.length : Int) - 1)) = true := by
    rw [List.all_eq_true]
    intro x hx
    have := hR.in_ x hx
    exact inB_iff.2 ⟨by omega, by omega⟩
  have h1 : inB (a : Int) 0 (c.ev - 1) = true := inB_iff.2 ⟨by omega, by omega⟩
  have h2 : inB (b : Int) 0 (c.ev - 1) = true := inB_iff.2 ⟨by omega, by omega⟩
  unfold showsOf
  rw [if_neg (by simp [h0]), if_neg (by simp [h1, h2]), if_neg (by omega), if_neg (by simp [hall]), hR.sum]
  simp

/-- All that the walk asks of two events that can be asked of. -/
structure RowsOK (c : Cs) (a b : Nat) : Prop where
  g1 : ∃ x, gapR (belT (rl c.wi.toNat fun _ => true)) c a b = (x, decide (gapsM allT c a b ≠ far)) ∧ (gapsM allT c a b ≠ far → x = gapsM allT c a b)
  g2 : ∃ x, gapR (belT (rl c.wi.toNat fun _ => true)) c b a = (x, decide (gapsM allT c b a ≠ far)) ∧ (gapsM allT c b a ≠ far → x = gapsM allT c b a)
  no : noR (belT (rl c.wi.toNat fun _ => true)) c a b = (decide (gapsM allT c a b ≠ far) && decide (gapsM allT c a b < 1))
  yes : yesR (belT (rl c.wi.toNat fun _ => true)) c a b = (decide (gapsM allT c b a ≠ far) && decide (gapsM allT c b a ≤ -1))
  row : gapsM allT c a b ≠ far → RowOK c.all c.ev.toNat a b (gapsM allT c a b)
  shows : gapsM allT c a b ≠ far → showsOf c a b (rowL c.all c.ev.toNat a b) = (gapsM allT c a b, 0)
  neg : IntKind.i64.wrap (-gapsM allT c b a) = -gapsM allT c b a
theorem rows_ok {c : Cs} (h0 : checkC c = 0) (hc : clashM (gapsM allT c) = false) {a b : Nat} (ha : (a : Int) < c.ev) (hb : (b : Int) < c.ev) : RowsOK c a b := by
  have hev := checkC_ev h0
  have hb8 := gapsM_bel h0
  have hc' : clashM (gapsM (belT (rl c.wi.toNat fun _ => true)) c) = false := by rw [hb8]; exact hc
  obtain ⟨p1, p2⟩ := gapR_is h0 hc' (a := a) (b := b) (by omega) (by omega)
  obtain ⟨q1, q2⟩ := gapR_is h0 hc' (a := b) (b := a) (by omega) (by omega)
  rw [hb8] at p1 p2 q1 q2
  have hf := fine_of h0 hc
  rw [belL_all] at hf
  have hrow := fun hn => row_ok h0 hf ha hb (a := a) (b := b) hn
  refine ⟨⟨_, Prod.ext rfl p1, p2⟩, ⟨_, Prod.ext rfl q1, q2⟩, ?_, ?_, hrow, fun hn => showsOf_row h0 ha hb (hrow hn), ?_⟩
  · unfold noR
    rw [p1]
    by_cases h : gapsM allT c a b ≠ far
    · rw [p2 h]
    · simp [h]
  · unfold yesR
    rw [q1]
    by_cases h : gapsM allT c b a ≠ far
    · rw [q2 h]
    · simp [h]
  · have hlo := (gapsM_low (tf := allT) h0) b a (by omega) (by omega)
    unfold far at hlo
    exact IntWalk.i64_in _ ⟨by omega, by omega⟩

/-- The blocks in S hold a case, of the program or of the reference. -/
def CaseB (w : World) (S : Nat → Prop) : Prop := ∀ n, S n → ∃ cur T, w.heap[n]? = some (.cells cur T (0, 0)) ∧ (T = 26 ∨ T = 72)
theorem CaseB.not {w : World} {S : Nat → Prop} (h : CaseB w S) {g : Nat} {cur : Array Value} {t : TypeId} (hg : w.heap[g]? = some (.cells cur t (0, 0))) (h1 : t ≠ 26) (h2 : t ≠ 72) : ¬ S g := fun hs => by
  obtain ⟨cur', T, e, hT⟩ := h g hs
  rw [hg] at e
  injection e with e1
  injection e1 with _ e2 _
  subst e2
  rcases hT with e | e
  · exact h1 e
  · exact h2 e
theorem CaseB.own {w w' : World} {S : Nat → Prop} (h : CaseB w S) (hx : BelS S w w') {base e size n : Nat} {v : Value} {xs : List Value} (ho : w.ownsRow base e size v n xs) (h1 : e ≠ 26) (h2 : e ≠ 72) : w'.ownsRow base e size v n xs := by
  refine hx.own ho fun g hg => ?_
  rcases ho.2 with ⟨hv, _⟩ | ⟨g', cap, cur, hv, _, hh, _⟩
  · rw [hv] at hg; cases hg
  · rw [hv] at hg
    have e2 : g' = g := by simpa [Value.ownBlock] using hg
    subst e2
    exact h.not hh h1 h2
theorem OwnCs.stores {w w' : World} {S : Nat → Prop} (h : CaseB w S) (hx : BelS S w w') {B : Nat} {v : Value} {c : Cs} (hc : OwnCs w B v c) : CsR w' v c := by
  obtain ⟨g1, k1, g2, k2, gs, xs, rfl, h1, h2, h3, _⟩ := hc
  have h3' : ClO w' B gs xs c.cl := h3.belS hx fun g hg => by
    obtain ⟨cur, e⟩ := h3.ty g hg
    exact h.not e (by decide) (by decide)
  exact ⟨_, k1, _, k2, rfl, Rd.of_own (h.own hx h1 (by decide) (by decide)), xs, Rd.of_own (h.own hx h2 (by decide) (by decide)), h3'.toC⟩
theorem TheirsCs.stores {w w' : World} {S : Nat → Prop} (h : CaseB w S) (hx : BelS S w w') {v : Value} {c : Cs} (hc : TheirsCs w v c) : CsR w' v c := by
  obtain ⟨A1, k1, A2, k2, xs, B, rfl, h1, h2, h3, h4⟩ := hc
  have hk : KB w w' := fun n cur hn => hx.heap hn (h.not hn (by decide) (by decide))
  exact ⟨A1, k1, A2, k2, rfl, hk.rd h2 h1, xs, Rd.of_own (h.own hx h3 (by decide) (by decide)), (h4.kb hk).toC⟩
end Go.Proofs.Ytgnjhaomlbkgcaa

namespace Go.Proofs.Ytgnjhaomlbkgcaa
open Go Go.RowKit Go.Deep Go.ChangeShapes Go.WideShapes Go.Joins
set_option linter.unusedVariables false
set_option linter.unusedSimpArgs false
set_option maxRecDepth 100000

theorem rd_of_cells {W : World} {a : Addr} {xs : List Value} (h : ∀ j u, xs[j]? = some u → W.cell? (a.add j) = some u) : Rd W (some a) xs := by
  cases xs with
  | nil => exact .inl rfl
  | cons u r =>
    obtain ⟨b, off, spot⟩ := a
    have hc := h 0 u rfl
    have hspot : spot = none := by simpa [Addr.add] using World.cell?_spot hc
    subst hspot
    refine .inr ⟨b, off, rfl, fun j v hv => ?_⟩
    have h2 := h j v hv
    rw [Addr.add_lit] at h2
    exact h2
theorem read_bds {W : World} {a : Addr} : ∀ (len : Nat), (∀ i, i < len → ∃ x : Bd, W.cell? (a.add (i * 3)) = some (.int .i64 x.f) ∧ W.cell? (a.add (i * 3 + 1)) = some (.int .i64 x.t) ∧ W.cell? (a.add (i * 3 + 2)) = some (.int .i64 x.m)) →
    ∃ l : List Bd, l.length = len ∧ ∀ j u, (bcells l)[j]? = some u → W.cell? (a.add j) = some u
  | 0, _ => ⟨[], rfl, fun j u h => by simp [bcells] at h⟩
  | len + 1, h => by
    obtain ⟨l, hl, hc⟩ := read_bds len (fun i hi => h i (by omega))
    obtain ⟨x, h0, h1, h2⟩ := h len (by omega)
    refine ⟨l ++ [x], by simp [hl], fun j u hu => ?_⟩
    rw [bcells_app] at hu
    by_cases hj : j < (bcells l).length
    · rw [List.getElem?_append_left hj] at hu
      exact hc j u hu
    · rw [List.getElem?_append_right (by omega)] at hu
      have e : (bcells l).length = len * 3 := by rw [bcells_len, hl]
      rw [e] at hu hj
      obtain ⟨r, rfl⟩ : ∃ r, j = len * 3 + r := ⟨j - len * 3, by omega⟩
      rw [Nat.add_sub_cancel_left] at hu
      match r, hu with
      | 0, hu => cases hu; exact h0
      | 1, hu => cases hu; exact h1
      | 2, hu => cases hu; exact h2
      | r + 3, hu => simp [bcells] at hu
theorem read_cls {W : World} {a : Addr} : ∀ (len : Nat), (∀ i, i < len → ∃ (x : Cl) (A : Option Addr) (c : Nat), W.cell? (a.add (i * 2)) = some (.int .i64 x.w) ∧ W.cell? (a.add (i * 2 + 1)) = some (.slice A x.bs.length c) ∧ Bounds W A x.bs ∧ x.bs.length ≤ 9223372036854775807) →
    ∃ (l : List Cl) (xs : List Value), l.length = len ∧ ClC W xs l ∧ (∀ x, x ∈ l → x.bs.length ≤ 9223372036854775807) ∧ ∀ j u, xs[j]? = some u → W.cell? (a.add j) = some u
  | 0, _ => ⟨[], [], rfl, trivial, (fun x h => by cases h), (fun j u h => by simp at h)⟩
  | len + 1, h => by
    obtain ⟨l, xs, hl, hC, hM, hc⟩ := read_cls len (fun i hi => h i (by omega))
    obtain ⟨x, A, c, h0, h1, h2, h3⟩ := h len (by omega)
    refine ⟨l ++ [x], xs ++ [.int .i64 x.w, .slice A x.bs.length c], by simp [hl], ClC.app hC ⟨rfl, ⟨A, c, rfl, h2⟩, trivial⟩, fun y hy => ?_, fun j u hu => ?_⟩
    · rcases List.mem_append.1 hy with h | h
      · exact hM y h
      · rw [List.mem_singleton.1 h]; exact h3
    · have e : xs.length = len * 2 := by rw [hC.len, hl]
      by_cases hj : j < xs.length
      · rw [List.getElem?_append_left hj] at hu
        exact hc j u hu
      · rw [List.getElem?_append_right (by omega)] at hu
        rw [e] at hu hj
        obtain ⟨r, rfl⟩ : ∃ r, j = len * 2 + r := ⟨j - len * 2, by omega⟩
        rw [Nat.add_sub_cancel_left] at hu
        match r, hu with
        | 0, hu => cases hu; exact h0
        | 1, hu => cases hu; exact h1
        | r + 2, hu => simp at hu

section
variable {H : Type} {enc : TypeId × Value → H} {W : World}
theorem cells_int : Try.prog.cellsOf 3 = 1 := by kernel_rfl
theorem trod_bounds {n : Nat} {v : Value} {y : DataW H × List MemPlace} (h : DataW.trod enc Try.prog W 0 (fun _ => true) true n 23 [v] = some y) :
    ∃ (A : Option Addr) (c : Nat) (l : List Bd), v = .slice A l.length c ∧ Bounds W A l ∧ l.length ≤ 9223372036854775807 := by
  rcases open_slice Try.underlying23 h with ⟨hcs, _⟩ | ⟨a, len, cap, m, n', D, Pl, hcs, hb, hl, hm, hmm, hx, hi⟩
  · cases hcs
    exact ⟨none, 0, [], rfl, Bounds.nil _ _, by simp⟩
  · cases hcs
    have hC : Try.prog.cellsOf 35 = 3 := by kernel_rfl
    have hm2 : m = cap := by simpa using hmm
    simp only [maxLen] at hm
    obtain ⟨l, hll, hc⟩ := read_bds (W := W) (a := a) len (fun i hi' => by
      obtain ⟨cs', hc, ht⟩ := hi i (by omega)
      rw [hC] at hc
      obtain ⟨_, hcl, hat⟩ := World.cells?_some hc
      obtain ⟨ys, n2, _, _, _, hyl, hf⟩ := DataW.trod_struct Try.underlying35 ht
      match cs', hcl with
      | [u0, u1, u2], _ =>
        match ys, hyl with
        | [y0, y1, y2], _ =>
          have f0 : DataW.trod enc Try.prog W 0 (fun _ => true) true n2 3 [u0] = some y0 := by have h := hf 0 _ rfl; simpa [cells_int] using h
          have f1 : DataW.trod enc Try.prog W 0 (fun _ => true) true n2 3 [u1] = some y1 := by have h := hf 1 _ rfl; simpa [cells_int] using h
          have f2 : DataW.trod enc Try.prog W 0 (fun _ => true) true n2 3 [u2] = some y2 := by have h := hf 2 _ rfl; simpa [cells_int] using h
          obtain ⟨a0, e0, _⟩ := DataW.trod_int Try.underlying3 f0
          obtain ⟨a1, e1, _⟩ := DataW.trod_int Try.underlying3 f1
          obtain ⟨a2, e2, _⟩ := DataW.trod_int Try.underlying3 f2
          cases e0
          cases e1
          cases e2
          have g0 := hat 0 (by omega)
          have g1 := hat 1 (by omega)
          have g2 := hat 2 (by omega)
          rw [add_add] at g0 g1 g2
          exact ⟨⟨a0, a1, a2⟩, g0, g1, g2⟩)
    subst hll
    exact ⟨_, cap, l, rfl, rd_of_cells hc, by omega⟩
theorem trod_claims {n : Nat} {v : Value} {y : DataW H × List MemPlace} (h : DataW.trod enc Try.prog W 0 (fun _ => true) true n 24 [v] = some y) :
    ∃ (A : Option Addr) (c : Nat) (l : List Cl), v = .slice A l.length c ∧ Claims W A l ∧ l.length ≤ 9223372036854775807 ∧ ∀ x, x ∈ l → x.bs.length ≤ 9223372036854775807 := by
  rcases open_slice Try.underlying24 h with ⟨hcs, _⟩ | ⟨a, len, cap, m, n', D, Pl, hcs, hb, hl, hm, hmm, hx, hi⟩
  · cases hcs
    exact ⟨none, 0, [], rfl, Claims.nil _ _, by simp, fun x h => by cases h⟩
  · cases hcs
    have hC : Try.prog.cellsOf 37 = 2 := by kernel_rfl
    have hC2 : Try.prog.cellsOf 23 = 1 := by kernel_rfl
    have hm2 : m = cap := by simpa using hmm
    simp only [maxLen] at hm
    obtain ⟨l, xs, hll, hCC, hM, hc⟩ := read_cls (W := W) (a := a) len (fun i hi' => by
      obtain ⟨cs', hc, ht⟩ := hi i (by omega)
      rw [hC] at hc
      obtain ⟨_, hcl, hat⟩ := World.cells?_some hc
      obtain ⟨ys, n2, _, _, _, hyl, hf⟩ := DataW.trod_struct Try.underlying37 ht
      match cs', hcl with
      | [u0, u1], _ =>
        match ys, hyl with
        | [y0, y1], _ =>
          have f0 : DataW.trod enc Try.prog W 0 (fun _ => true) true n2 3 [u0] = some y0 := by have h := hf 0 _ rfl; simpa [cells_int] using h
          have f1 : DataW.trod enc Try.prog W 0 (fun _ => true) true n2 23 [u1] = some y1 := by have h := hf 1 _ rfl; simpa [hC2] using h
          obtain ⟨a0, e0, _⟩ := DataW.trod_int Try.underlying3 f0
          obtain ⟨A, c, bs, e1, hB, hbl⟩ := trod_bounds (n := n2) (v := u1) (y := y1) f1
          cases e0
          subst e1
          have g0 := hat 0 (by omega)
          have g1 := hat 1 (by omega)
          rw [add_add] at g0 g1
          exact ⟨⟨a0, bs⟩, A, c, g0, g1, hB, hbl⟩)
    subst hll
    exact ⟨_, cap, l, rfl, ⟨xs, rd_of_cells hc, hCC⟩, by omega, hM⟩
/-- The case that stands as v. -/
theorem open_case {r : Reach} {b0 : Nat} {v : Value} {d : DataW H} {p : List MemPlace} (hv : Value.okWide Try.prog W r b0 26 v) (h : DataW.Trod enc Try.prog W 0 (fun _ => true) true 26 v d p) :
    ∃ c : Cs, CsR W v c ∧ c.sized := by
  obtain ⟨v0, v1, v2, v3, y0, y1, y2, y3, n, rfl, _, _, h0, h1, h2, h3⟩ := open_agg4 Try.underlying26 (by kernel_rfl) (by kernel_rfl) hv h
  obtain ⟨ev, e0, _⟩ := DataW.trod_int Try.underlying3 h0
  obtain ⟨A1, c1, bs, rfl, hB, hbl⟩ := trod_bounds h1
  obtain ⟨wi, e2, _⟩ := DataW.trod_int Try.underlying3 h2
  obtain ⟨A2, c2, cl, rfl, hC, hcl, hx⟩ := trod_claims h3
  cases e0
  cases e2
  exact ⟨⟨ev, bs, wi, cl⟩, ⟨A1, c1, A2, c2, rfl, hB, hC⟩, hbl, hcl, hx⟩
end
end Go.Proofs.Ytgnjhaomlbkgcaa
