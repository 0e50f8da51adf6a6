/- A set that is laid of distinct numbers, bit by bit. No program stands here. -/
import Derived.Test.YtpbpcplboikpcaaGreatG1
namespace Go.Proofs.YtpbpcplboikpcaaGreat
open Go Go.RowKit
set_option linter.unusedVariables false
set_option linter.unusedSimpArgs false

theorem bit_add : ∀ (r S i : Nat), bit S r = false → bit (S + 2 ^ r) i = (bit S i || decide (i = r))
  | 0, S, i, h => by
    rw [bit_zero] at h
    have h0 : S % 2 = 0 := by have := of_decide_eq_false h; omega
    cases i with
    | zero =>
      rw [bit_zero, bit_zero]
      simp
      omega
    | succ i =>
      rw [bit_succ, bit_succ, show (S + 2 ^ 0) / 2 = S / 2 by simp; omega]
      simp
  | r + 1, S, i, h => by
    rw [bit_succ] at h
    have e : (S + 2 ^ (r + 1)) / 2 = S / 2 + 2 ^ r := by rw [Nat.pow_succ]; omega
    cases i with
    | zero =>
      rw [bit_zero, bit_zero, show (S + 2 ^ (r + 1)) % 2 = S % 2 by rw [Nat.pow_succ]; omega]
      simp
    | succ i =>
      rw [bit_succ, bit_succ, e, bit_add r (S / 2) i h]
      simp
theorem bit_lt : ∀ (r n S : Nat), r < n → S < 2 ^ n → bit S r = false → S + 2 ^ r < 2 ^ n
  | r, 0, S, hr, _, _ => by omega
  | 0, n + 1, S, _, hS, h => by
    rw [bit_zero] at h
    have h0 : S % 2 = 0 := by have := of_decide_eq_false h; omega
    rw [Nat.pow_succ] at hS ⊢
    omega
  | r + 1, n + 1, S, hr, hS, h => by
    rw [bit_succ] at h
    have h1 : S / 2 < 2 ^ n := by rw [Nat.pow_succ] at hS; omega
    have h2 := bit_lt r n (S / 2) (by omega) h1 h
    rw [Nat.pow_succ, Nat.pow_succ]
    omega
/-- A set holds just the numbers of a list. -/
def SetOf (n S : Nat) (l : List Int) : Prop := S < 2 ^ n ∧ ∀ i : Nat, bit S i = memI (i : Int) l
theorem SetOf.nil (n : Nat) : SetOf n 0 [] := ⟨Nat.pow_pos (by omega), fun i => by simp [bit, memI]⟩
theorem SetOf.add {n S r : Nat} {l : List Int} (h : SetOf n S l) (hr : r < n) (hn : memI (r : Int) l = false) : SetOf n (S + 2 ^ r) (l ++ [(r : Int)]) := by
  have hb : bit S r = false := by rw [h.2, hn]
  refine ⟨bit_lt r n S hr h.1 hb, fun i => ?_⟩
  rw [bit_add r S i hb, h.2]
  unfold memI
  rw [List.any_append]
  congr 1
  rw [Bool.eq_iff_iff]
  simp
  omega
theorem SetOf.agreed {g : Mat} {f : Fg} {c : Ct} {n S : Nat} {l : List Int} (h : SetOf n S l) : agreedM g f c l = decide (0 < countM g f c (selS S)) := by
  unfold agreedM
  rw [countM_congr (sel := selS S) (sel' := fun i => memI i l) fun i _ => by
    show bit S ((i : Int)).toNat = _
    rw [Int.toNat_natCast, h.2]]
end Go.Proofs.YtpbpcplboikpcaaGreat
