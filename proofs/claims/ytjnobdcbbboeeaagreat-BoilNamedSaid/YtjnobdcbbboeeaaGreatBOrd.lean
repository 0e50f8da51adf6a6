/- The walks of cmp.Less, cmp.Compare, slices.IsSorted, slices.Compare and fewer. As XOrd, for boil. -/
import Derived.Test.YtjnobdcbbboeeaaGreatH1
import Derived.Test.YtjnobdcbbboeeaaGreatProg
import Derived.Test.YtjnobdcbbboeeaaGreatRegPre
namespace Go.Proofs.YtjnobdcbbboeeaaGreat
open Go Go.RowKit Go.Shelf
set_option linter.unusedVariables false
set_option linter.unusedSimpArgs false

theorem isnan_any (x : Int) (w : World) : Calls Tryz.prog 75 #[.int .i64 x] w fun e w' => e = .returned (.bool false) ∧ w' = w := by
  go_enter Tryz.func75, Tryz.ntmps75
  go_wp2
  go_ret
  exact ⟨ret_of (bool_of (by simp)), rfl⟩
theorem less_any (x y : Int) (w : World) : Calls Tryz.prog 43 #[.int .i64 x, .int .i64 y] w fun e w' => e = .returned (.bool (decide (x < y))) ∧ w' = w := by
  go_enter Tryz.func43, Tryz.ntmps43
  go_wp2_with fail
  refine (isnan_any x w).mono ?_
  rintro e w1 ⟨rfl, rfl⟩
  go_wp2
  go_ret
  exact ⟨rfl, rfl⟩
def cmpI (x y : Int) : Int := if x < y then -1 else if y < x then 1 else 0
theorem cmpI_any (x y : Int) (w : World) : Calls Tryz.prog 56 #[.int .i64 x, .int .i64 y] w fun e w' => e = .returned (.int .i64 (cmpI x y)) ∧ w' = w := by
  generalize hF : cmpI x y = F
  have HF : Hid ((if x < y then (-1 : Int) else if y < x then 1 else 0) = F) := hF
  clear hF
  go_enter Tryz.func56, Tryz.ntmps56
  go_wp2_with fail
  refine (isnan_any x w).mono ?_
  rintro e w1 ⟨rfl, rfl⟩
  go_wp2_with fail
  refine (isnan_any y _).mono ?_
  rintro e w2 ⟨rfl, rfl⟩
  by_cases h1 : x < y
  · have HQ : Hid ((-1 : Int) = F) := by have := HF.out; rw [if_pos h1] at this; exact this
    clear HF
    go_wp2
    go_ret
    exact ⟨ret_of (int_of HQ.out), rfl⟩
  · by_cases h2 : y < x
    · have HQ : Hid ((1 : Int) = F) := by have := HF.out; rw [if_neg h1, if_pos h2] at this; exact this
      have h3 : x > y := h2
      clear HF
      go_wp2
      go_ret
      exact ⟨ret_of (int_of HQ.out), rfl⟩
    · have HQ : Hid ((0 : Int) = F) := by have := HF.out; rw [if_neg h1, if_neg h2] at this; exact this
      have h3 : ¬ x > y := h2
      clear HF
      go_wp2
      go_ret
      exact ⟨ret_of (int_of HQ.out), rfl⟩

set_option maxRecDepth 100000 in
set_option maxHeartbeats 1000000 in
theorem issorted_any (A : Option Addr) (c0 : Nat) (l : List Int) (w : World) (hA : Ints w A l) (hl : l.length ≤ 1000000) (hs : l.Pairwise (· < ·)) :
    Calls Tryz.prog 10 #[.slice A l.length c0] w fun e w' => e = .returned (.bool true) ∧ Ext w w' := by
  have HS := hid (List.pairwise_iff_getElem.1 hs)
  clear hs
  go_enter Tryz.func10, Tryz.ntmps10
  go_wp2
  go_loopw [3] (fun i wr => ∃ k : Int, i = .int .i64 k ∧ -1 ≤ k ∧ k < (l.length : Int) ∧ Ext w wr) (fun i _ => (intOf i + 1).toNat)
  case atStart => exact ⟨(l.length : Int) - 1, by go_num, by omega, by omega, Ext.refl _⟩
  case round =>
    obtain ⟨k, rfl, hk1, hk2, hx⟩ := hrel
    by_cases hlt : k > 0
    · obtain ⟨n, rfl⟩ : ∃ n : Nat, k = (n : Int) + 1 := ⟨(k - 1).toNat, by omega⟩
      obtain ⟨x, hxn⟩ := get_of_lt l n (by omega)
      obtain ⟨y, hyn⟩ := get_of_lt l (n + 1) (by omega)
      have hxy : x < y := by
        have h := HS.out n (n + 1) (by omega) (by omega) (by omega)
        rw [(List.getElem?_eq_some_iff.1 hxn).2, (List.getElem?_eq_some_iff.1 hyn).2] at h
        exact h
      have hyx : decide (y < x) = false := by simp; omega
      obtain ⟨b, off, rfl, e0⟩ := Ints.at_ (Ints.ext hA hx) hxn
      obtain ⟨b', off', e', e1⟩ := Ints.at_ (Ints.ext hA hx) hyn
      cases e'
      have e2 : wr.cell? ⟨b, off + ((n : Int) + 1).toNat, none⟩ = some (.int .i64 y) := by rw [show ((n : Int) + 1).toNat = n + 1 by omega]; exact e1
      have FX : Hid (∀ w', Ext wr w' → w'.cell? ⟨b, off + n, none⟩ = some (.int .i64 x) ∧ w'.cell? ⟨b, off + (n + 1), none⟩ = some (.int .i64 y)) := fun w' h => ⟨h.cell e0, h.cell e1⟩
      have hi1 : (n : Int) + 1 < (l.length : Int) := hk2
      have hi2 : (n : Int) < (l.length : Int) := by omega
      have hw1 : IntKind.i64.wrap ((n : Int) + 1 - 1) = (n : Int) := by rw [show (n : Int) + 1 - 1 = n by omega]; exact IntWalk.i64_in _ ⟨by omega, by omega⟩
      have hw2 : IntKind.i64.wrap (n : Int) = (n : Int) := IntWalk.i64_in _ ⟨by omega, by omega⟩
      have ht : ((n : Int) + 1).toNat = n + 1 := by omega
      have hp1 : ¬ (n : Int) + 1 < 0 := by omega
      clear e0 e1 e2 hxn hyn
      go_wp2
      refine wp_region_opens Ext (fun w' => Ext wr w') (fun | 9 => some (fun v _ => v = .bool false) | _ => none) (by kernel_rfl) (by kernel_rfl) (fun _ _ h k => h.trans k) ?hT (Ext.drew (Ext.refl wr)) ?_
      case hT =>
        intro i R hR
        match i, hR with
        | 9, hR => cases hR; exact fun _ _ _ h _ => h
      refine wpM_val ?ua0 rfl rfl Ext.refl (fun w' hD => ?ha0) ?na0
      case ha0 =>
        obtain ⟨d0, d1⟩ := FX.out w' hD.1
        go_simp; rfl
      simp only [Act.put, List.setIfInBounds_toArray, List.set_cons_succ, List.set_cons_zero, Nat.reduceAdd]
      refine wpM_val ?ua1 rfl rfl Ext.refl (fun w' hD => ?ha1) ?na1
      case ha1 =>
        obtain ⟨d0, d1⟩ := FX.out w' hD.1
        go_simp; rfl
      simp only [Act.put, List.setIfInBounds_toArray, List.set_cons_succ, List.set_cons_zero, Nat.reduceAdd]
      refine wpM_val ?ua2 rfl rfl Ext.refl (fun w' hD => ?ha2) ?na2
      case ha2 =>
        obtain ⟨d0, d1⟩ := FX.out w' hD.1
        go_simp; rfl
      simp only [Act.put, List.setIfInBounds_toArray, List.set_cons_succ, List.set_cons_zero, Nat.reduceAdd]
      refine wpM_val ?ua3 rfl rfl Ext.refl (fun w' hD => ?ha3) ?na3
      case ha3 =>
        obtain ⟨d0, d1⟩ := FX.out w' hD.1
        go_simp; rfl
      simp only [Act.put, List.setIfInBounds_toArray, List.set_cons_succ, List.set_cons_zero, Nat.reduceAdd]
      refine wpM_val ?ua4 rfl rfl Ext.refl (fun w' hD => ?ha4) ?na4
      case ha4 =>
        obtain ⟨d0, d1⟩ := FX.out w' hD.1
        go_simp; rfl
      simp only [Act.put, List.setIfInBounds_toArray, List.set_cons_succ, List.set_cons_zero, Nat.reduceAdd]
      refine wpM_val ?ua5 rfl rfl Ext.refl (fun w' hD => ?ha5) ?na5
      case ha5 =>
        obtain ⟨d0, d1⟩ := FX.out w' hD.1
        go_simp; rfl
      simp only [Act.put, List.setIfInBounds_toArray, List.set_cons_succ, List.set_cons_zero, Nat.reduceAdd]
      refine wpM_val ?ua6 rfl rfl Ext.refl (fun w' hD => ?ha6) ?na6
      case ha6 =>
        obtain ⟨d0, d1⟩ := FX.out w' hD.1
        go_simp; rfl
      simp only [Act.put, List.setIfInBounds_toArray, List.set_cons_succ, List.set_cons_zero, Nat.reduceAdd]
      refine wpM_val ?ua7 rfl rfl Ext.refl (fun w' hD => ?ha7) ?na7
      case ha7 =>
        obtain ⟨d0, d1⟩ := FX.out w' hD.1
        go_simp; rfl
      simp only [Act.put, List.setIfInBounds_toArray, List.set_cons_succ, List.set_cons_zero, Nat.reduceAdd]
      refine wpM_val ?ua8 rfl rfl Ext.refl (fun w' hD => ?ha8) ?na8
      case ha8 =>
        obtain ⟨d0, d1⟩ := FX.out w' hD.1
        go_simp; rfl
      simp only [Act.put, List.setIfInBounds_toArray, List.set_cons_succ, List.set_cons_zero, Nat.reduceAdd]
      refine wpM_op _ rfl rfl (opens_call ?fa9 ?ga9 (fun w' hD => ?ha9) (fun w' hD => ?ca9)) (fun v9 hv9 => ?na9)
      case ha9 => go_simp; constructor <;> rfl
      case ca9 =>
        refine (less_any y x w').mono ?_
        rintro e w2 ⟨rfl, rfl⟩
        exact ⟨_, rfl, Ext.refl _, by rw [hyx]⟩
      obtain ⟨_, -, -, rfl⟩ := hv9
      simp only [Act.put, List.setIfInBounds_toArray, List.set_cons_succ, List.set_cons_zero, Nat.reduceAdd]
      refine wpM_nil ?_
      intro w9 hw9 hF9
      have hx9 := hx.trans hw9
      clear hF9 FX
      go_wp2
      go_roundw
      case rel => exact ⟨(n : Int), by go_num, by omega, by omega, hx9⟩
      case measure => simp [intOf]; omega
    · have hlt' : ¬ k > 0 := hlt
      go_wp2
      go_ret
      exact ⟨rfl, hx⟩

theorem cmpL_drop {l m : List Int} {k : Nat} {x y : Int} (hx : l[k]? = some x) (hy : m[k]? = some y) : cmpL (l.drop k) (m.drop k) = if x < y then -1 else if y < x then 1 else cmpL (l.drop (k + 1)) (m.drop (k + 1)) := by
  obtain ⟨h1, h2⟩ := List.getElem?_eq_some_iff.1 hx
  obtain ⟨h3, h4⟩ := List.getElem?_eq_some_iff.1 hy
  rw [List.drop_eq_getElem_cons h1, List.drop_eq_getElem_cons h3, h2, h4]
  rfl
theorem cmpL_more {l m : List Int} {k : Nat} (h1 : k < l.length) (h2 : m.length ≤ k) : cmpL (l.drop k) (m.drop k) = 1 := by
  rw [List.drop_eq_getElem_cons h1, List.drop_eq_nil_of_le h2]; rfl
theorem cmpL_end {l m : List Int} {k : Nat} (h1 : l.length ≤ k) (hk : k ≤ m.length) (hkl : k = l.length) : cmpL (l.drop k) (m.drop k) = if l.length < m.length then -1 else 0 := by
  rw [List.drop_eq_nil_of_le h1]
  by_cases h : l.length < m.length
  · rw [if_pos h, List.drop_eq_getElem_cons (show k < m.length by omega)]; rfl
  · rw [if_neg h, List.drop_eq_nil_of_le (show m.length ≤ k by omega)]; rfl

set_option maxRecDepth 100000 in
set_option maxHeartbeats 1000000 in
theorem compare_any (A : Option Addr) (c0 : Nat) (l : List Int) (A' : Option Addr) (c1 : Nat) (m : List Int) (w : World) (hA : Ints w A l) (hB : Ints w A' m) (hl : l.length ≤ 1000000) (hm : m.length ≤ 1000000) :
    Calls Tryz.prog 23 #[.slice A l.length c0, .slice A' m.length c1] w fun e w' => e = .returned (.int .i64 (cmpL l m)) ∧ w' = w := by
  generalize hF : cmpL l m = F
  have HF : Hid (cmpL (l.drop 0) (m.drop 0) = F) := hF
  clear hF
  have HA := hid hA
  have HB := hid hB
  clear hA hB
  go_enter Tryz.func23, Tryz.ntmps23
  go_wp2
  go_loop [11] (fun i => ∃ k : Nat, i = .int .i64 (k : Int) ∧ k ≤ l.length ∧ k ≤ m.length ∧ Hid (cmpL (l.drop k) (m.drop k) = F)) (fun i => l.length - (intOf i).toNat)
  case atStart => exact ⟨0, rfl, Nat.zero_le _, Nat.zero_le _, HF⟩
  case round =>
    obtain ⟨k, rfl, hk1, hk2, HF⟩ := hrel
    by_cases hlt : k < l.length
    · have hlt' : (k : Int) < (l.length : Int) := by omega
      obtain ⟨x, hx⟩ := get_of_lt l k hlt
      obtain ⟨b, off, rfl, e0⟩ := Ints.at_ HA.out hx
      by_cases hlt2 : k < m.length
      · have hlt2' : (k : Int) < (m.length : Int) := by omega
        have hlt3 : ¬ (m.length : Int) ≤ (k : Int) := by omega
        obtain ⟨y, hy⟩ := get_of_lt m k hlt2
        obtain ⟨b', off', rfl, e1⟩ := Ints.at_ HB.out hy
        have HD : Hid ((if x < y then -1 else if y < x then 1 else cmpL (l.drop (k + 1)) (m.drop (k + 1))) = F) := by
          unfold Hid; rw [← cmpL_drop hx hy]; exact HF.out
        clear hx hy HF
        go_wp2_with fail
        refine (cmpI_any x y w).mono ?_
        rintro e w2 ⟨rfl, rfl⟩
        unfold cmpI
        by_cases h1 : x < y
        · have HQ : Hid ((-1 : Int) = F) := by have := HD.out; rw [if_pos h1] at this; exact this
          rw [if_pos h1]
          clear HD
          go_wp2
          go_ret
          exact ⟨ret_of (int_of HQ.out), rfl⟩
        · rw [if_neg h1]
          by_cases h2 : y < x
          · have HQ : Hid ((1 : Int) = F) := by have := HD.out; rw [if_neg h1, if_pos h2] at this; exact this
            rw [if_pos h2]
            clear HD
            go_wp2
            go_ret
            exact ⟨ret_of (int_of HQ.out), rfl⟩
          · have HQ : Hid (cmpL (l.drop (k + 1)) (m.drop (k + 1)) = F) := by have := HD.out; rw [if_neg h1, if_neg h2] at this; exact this
            rw [if_neg h2]
            clear HD
            go_wp2
            go_round
            case rel => exact ⟨k + 1, by go_num, by omega, by omega, HQ⟩
            case measure => simp [intOf]; omega
      · have hlt2' : ¬ (k : Int) < (m.length : Int) := by omega
        have hlt3 : (m.length : Int) ≤ (k : Int) := by omega
        have HQ : Hid ((1 : Int) = F) := by unfold Hid; rw [← HF.out, cmpL_more hlt (by omega)]
        clear HF hx
        go_wp2
        go_ret
        exact ⟨ret_of (int_of HQ.out), rfl⟩
    · have hlt' : ¬ (k : Int) < (l.length : Int) := by omega
      have HQ0 := HF.out
      rw [cmpL_end (by omega) hk2 (by omega)] at HQ0
      by_cases h : l.length < m.length
      · have h' : (l.length : Int) < (m.length : Int) := by omega
        rw [if_pos h] at HQ0
        have HQ := hid HQ0
        clear HF HQ0
        go_wp2
        go_ret
        exact ⟨ret_of (int_of HQ.out), rfl⟩
      · have h' : ¬ (l.length : Int) < (m.length : Int) := by omega
        rw [if_neg h] at HQ0
        have HQ := hid HQ0
        clear HF HQ0
        go_wp2
        go_ret
        exact ⟨ret_of (int_of HQ.out), rfl⟩

end Go.Proofs.YtjnobdcbbboeeaaGreat
