/- The walks of slices.Index and slices.Contains over numbers. -/
import Derived.Test.YtjnobdcbbboeeaaGreatH4
import Derived.Test.YtjnobdcbbboeeaaGreatH1
namespace Go.Proofs.YtjnobdcbbboeeaaGreat
open Go Go.RowKit Go.Shelf
set_option linter.unusedVariables false
set_option linter.unusedSimpArgs false

theorem indexI_any (x : Int) (A : Option Addr) (c : Nat) (l : List Int) (w : World) (hA : Ints w A l) (hl : l.length ≤ 9223372036854775807) :
    Calls Tryz.prog 20 #[.slice A l.length c, .int .i64 x] w fun e w' => e = .returned (.int .i64 (idxF (fun y => x == y) l 0)) ∧ w' = w := by
  have HF : Hid (idxF (fun y => x == y) l 0 = idxF (fun y => x == y) (l.drop 0) 0) := rfl
  generalize hF : idxF (fun y => x == y) l 0 = F at HF ⊢
  clear hF
  have HA := hid hA
  clear hA
  go_enter Tryz.func20, Tryz.ntmps20
  go_wp2
  go_loop [8] (fun s => ∃ k : Nat, k ≤ l.length ∧ s = .int .i64 (k : Int) ∧ Hid (F = idxF (fun y => x == y) (l.drop k) k)) (fun i => l.length - (intOf i).toNat)
  case atStart => exact ⟨0, Nat.zero_le _, rfl, HF⟩
  case round =>
    obtain ⟨k, hk, rfl, HF⟩ := hrel
    by_cases hlt : k < l.length
    · have hlt' : (k : Int) < (l.length : Int) := by omega
      obtain ⟨y, hy⟩ := get_of_lt l k hlt
      obtain ⟨b, off, rfl, e0⟩ := Ints.at_ HA.out hy
      have HD : Hid (F = if x == y then (k : Int) else idxF (fun y => x == y) (l.drop (k + 1)) (k + 1)) := by
        unfold Hid
        rw [HF.out, idxF_drop _ l k y hy]
      clear hy HF
      by_cases hxy : x = y
      · have HQ : Hid (F = (k : Int)) := by unfold Hid; rw [HD.out]; simp [hxy]
        clear HD
        subst hxy
        go_wp2
        go_ret
        exact ⟨ret_of (int_of HQ.out.symm), rfl⟩
      · have HQ : Hid (F = idxF (fun y => x == y) (l.drop (k + 1)) (k + 1)) := by unfold Hid; rw [HD.out]; simp [hxy]
        clear HD
        go_wp2
        go_round
        case rel => exact ⟨k + 1, by omega, by go_num, HQ⟩
        case measure => simp [intOf]; omega
    · have hlt' : ¬ (k : Int) < (l.length : Int) := by omega
      have HQ : Hid (F = -1) := by unfold Hid; rw [HF.out, idxF_end _ l k (by omega)]
      clear HF
      go_wp2
      go_ret
      exact ⟨ret_of (int_of HQ.out.symm), rfl⟩
theorem containsI_any (x : Int) (A : Option Addr) (c : Nat) (l : List Int) (w : World) (hA : Ints w A l) (hl : l.length ≤ 9223372036854775807) :
    Calls Tryz.prog 49 #[.slice A l.length c, .int .i64 x] w fun e w' => e = .returned (.bool (memI x l)) ∧ w = w' := by
  have H := hid (idxF_nonneg (fun y => x == y) l 0)
  go_enter Tryz.func49, Tryz.ntmps49
  go_wp2_with fail
  refine (indexI_any x A c l w hA hl).mono ?_
  rintro e w1 ⟨rfl, rfl⟩
  go_wp2
  go_ret
  exact ⟨ret_of (bool_of H.out), rfl⟩

end Go.Proofs.YtjnobdcbbboeeaaGreat
