/- The plain side of BoilGrown. No program stands here. -/
import Derived.Test.YtjnobdcbbboeeaaGreatH3
import Derived.Test.YtjnobdcbbboeeaaGreatHa
namespace Go.Proofs.YtjnobdcbbboeeaaGreat
open Go Go.RowKit
set_option linter.unusedVariables false
set_option linter.unusedSimpArgs false

theorem wgAt_some {h : Hs} {k : Nat} (hk : k < h.ws.length) : h.ws[k]? = some (wgAt h k) := by
  unfold wgAt; rw [List.getD_eq_getElem?_getD, List.getElem?_eq_getElem hk]; rfl
theorem keep_one {h : Hs} {n : Nat} (hn : n < h.ws.length) : ∀ k, k ≤ h.ws.length → keepK h [(n : Int)] k = if k ≤ n then h.ws.take k else h.ws.take n ++ (h.ws.take k).drop (n + 1)
  | 0, _ => by simp [keepK]
  | k + 1, hk => by
    rw [keepK_next, keep_one hn k (by omega)]
    have hx := wgAt_some (h := h) (k := k) (by omega)
    have ht : h.ws.take (k + 1) = h.ws.take k ++ [wgAt h k] := by rw [List.take_add_one, hx]; rfl
    have hm : memI (k : Int) [(n : Int)] = decide (k = n) := by
      rw [Bool.eq_iff_iff, mem_memI, decide_eq_true_eq]; simp; omega
    rw [hm]
    by_cases e1 : k = n
    · subst e1
      rw [if_pos (show k ≤ k from Nat.le_refl _), if_neg (show ¬ k + 1 ≤ k by omega), if_pos (show decide (k = k) = true by simp), List.append_nil, ht]
      rw [List.drop_eq_nil_of_le (by simp; omega), List.append_nil]
    · rw [if_neg (show ¬ decide (k = n) = true by simpa using e1)]
      by_cases e2 : k < n
      · rw [if_pos (show k ≤ n by omega), if_pos (show k + 1 ≤ n by omega), ht]
      · rw [if_neg (show ¬ k ≤ n by omega), if_neg (show ¬ k + 1 ≤ n by omega), ht, List.drop_append_of_le_length (by simp; omega), List.append_assoc]
theorem wth_one {h : Hs} (k : HsOK h) {n : Nat} (hn : n < h.ws.length) : wthE h [(n : Int)] = 0 ∧ wthV h [(n : Int)] = lessH1 h n := by
  have e0 : wthE h [(n : Int)] = 0 := by
    unfold wthE
    rw [checkH_of k, if_neg (by simp)]
    unfold witE
    rw [if_neg (by rw [wgOK_iff.2 (by omega)]; simp), if_neg (by simp [memI])]
    rfl
  refine ⟨e0, ?_⟩
  unfold wthV lessH1
  rw [if_pos e0]
  have h1 := keep_one hn h.ws.length (Nat.le_refl _)
  rw [if_neg (by omega), List.take_length] at h1
  have h2 : keepW h [(n : Int)] = keepK h [(n : Int)] h.ws.length := rfl
  rw [h2, h1, List.eraseIdx_eq_take_drop_succ]
end Go.Proofs.YtjnobdcbbboeeaaGreat
