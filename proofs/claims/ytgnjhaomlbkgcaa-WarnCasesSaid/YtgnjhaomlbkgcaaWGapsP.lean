/- The plain law of WarnGaps. No program stands here. -/
import Derived.Test.YtgnjhaomlbkgcaaWMadeP
import Derived.Test.YtgnjhaomlbkgcaaWShows
namespace Go.Proofs.Ytgnjhaomlbkgcaa
open Go Go.RowKit
set_option linter.unusedVariables false
set_option linter.unusedSimpArgs false

/-- A gap as the statement keeps it: 1 << 30 if there is none. -/
def gst (c : Cs) (a b : Nat) : Int := if gapsM allT c a b = far then 1073741824 else gapsM allT c a b

theorem gap_near {c : Cs} (h0 : checkC c = 0) (hf : Fine c.all) {a b : Nat} (ha : a < 8) (hb : b < 8) (hn : gapsM allT c a b ≠ far) : -416000 ≤ gapsM allT c a b ∧ gapsM allT c a b ≤ 7000 := by
  rw [← belL_all] at hf
  obtain ⟨l, hl, _⟩ := gap_row h0 ha hb hn
  obtain ⟨m, hm, h7, _⟩ := row_short (belL_ok h0) hf ha l.length (Nat.le_refl _) hl
  have h1 := gap_le h0 hf ha hb hm
  have h2 := sumW_le (belL_ok h0) hm.mem
  have h3 := (gapsM_low (tf := allT) h0 a b ha hb).1
  omega
theorem gst_le {c : Cs} (h0 : checkC c = 0) (hf : Fine c.all) {a b : Nat} (ha : a < 8) (hb : b < 8) : -416000 ≤ gst c a b ∧ (gst c a b ≤ 7000 ∨ gst c a b = 1073741824) := by
  unfold gst
  by_cases h : gapsM allT c a b = far
  · rw [if_pos h]; omega
  · rw [if_neg h]; have := gap_near h0 hf ha hb h; omega
theorem gst_lt {c : Cs} (h0 : checkC c = 0) (hf : Fine c.all) {a b : Nat} (ha : a < 8) (hb : b < 8) : gst c a b < 1073741824 ↔ gapsM allT c a b ≠ far := by
  unfold gst
  by_cases h : gapsM allT c a b = far
  · rw [if_pos h]; simp [h]
  · rw [if_neg h]; have := gap_near h0 hf ha hb h; simp [h]; omega
theorem gst_is {c : Cs} {a b : Nat} (h : gapsM allT c a b ≠ far) : gst c a b = gapsM allT c a b := by unfold gst; rw [if_neg h]

structure GapsOK (c : Cs) (real : List Int) : Prop where
  one : ∀ a b : Nat, (a : Int) < c.ev → (b : Int) < c.ev → (gapOf c a b = (gst c a b, 0) ∧ gst c a b < 1073741824 ∧ real.getD b 0 - real.getD a 0 ≤ gst c a b ∧ (a = b → gst c a b = 0)) ∨ (gapOf c a b = (0, 6) ∧ gst c a b = 1073741824 ∧ a ≠ b)
  size : ∀ a b : Nat, (a : Int) < c.ev → (b : Int) < c.ev → -416000 ≤ gst c a b ∧ gst c a b ≤ 1073741824
  over : ∀ a b k : Nat, (a : Int) < c.ev → (b : Int) < c.ev → (k : Int) < c.ev → gst c a k < 1073741824 → gst c k b < 1073741824 → gst c a b ≤ gst c a k + gst c k b
  ask : ∀ a b : Nat, (a : Int) < c.ev → (b : Int) < c.ev → askOf c a b = if gst c a b < 1073741824 ∧ gst c b a < 1073741824 then ((-gst c b a, gst c a b), 0) else ((0, 0), 6)
  rows : ∀ (a : Nat) (at_ s : Int) (row : List Int), (a : Int) < c.ev → row.length ≤ c.all.length → (∀ i ∈ row, 0 ≤ i ∧ i < (c.all.length : Int)) → alongC c.all a 0 row = some (at_, s) →
    (0 ≤ at_ ∧ at_ < c.ev) ∧ showsOf c a at_ row = (s, 0) ∧ gst c a at_.toNat ≤ s ∧ gst c a at_.toNat < 1073741824

theorem along_row {L : List Bd} (hL : ∀ b ∈ L, 0 ≤ b.f ∧ 0 ≤ b.t) : ∀ {row : List Int} {a : Nat} {s e n : Int}, alongC L a s row = some (e, n) → ∃ l, Row L a e.toNat l ∧ n = s + sumW l ∧ 0 ≤ e ∧ (l = [] → e = a) ∧ (∀ x : Bd, l.getLast? = some x → e = x.t) := by
  intro row
  induction row with
  | nil =>
    intro a s e n h
    simp only [alongC, Option.some.injEq, Prod.mk.injEq] at h
    obtain ⟨rfl, rfl⟩ := h
    exact ⟨[], by rw [Int.toNat_natCast]; exact Row.nil _ _, by simp [sumW], by omega, fun _ => rfl, fun x h => by simp at h⟩
  | cons i row ih =>
    intro a s e n h
    unfold alongC at h
    rcases hx : L[i.toNat]? with _ | x
    · rw [hx] at h; cases h
    · rw [hx] at h
      simp only at h
      by_cases hf : x.f = a
      · rw [if_pos hf] at h
        have hm := List.mem_of_getElem? hx
        obtain ⟨h1, h2⟩ := hL x hm
        obtain ⟨tn, ht⟩ : ∃ tn : Nat, x.t = tn := ⟨x.t.toNat, by omega⟩
        rw [ht] at h
        obtain ⟨l, hl, hs, he, h3, h4⟩ := ih h
        have h5 := Row.one hm
        rw [hf, ht, Int.toNat_natCast, Int.toNat_natCast] at h5
        refine ⟨[x] ++ l, h5.app hl, by rw [sumW_app]; simp only [sumW]; omega, he, fun h => by simp at h, fun y hy => ?_⟩
        cases l with
        | nil => simp at hy; subst hy; rw [ht]; exact h3 rfl
        | cons z l => exact h4 y (by simpa using hy)
      · rw [if_neg hf] at h; cases h

theorem gaps_ok {evm bm cm : Nat} {c : Cs} {real : List Int} (h : MadeOK evm bm cm 0 c real) (he : evm ≤ 8) (hb : bm ≤ 20) (hc : cm ≤ 8) : GapsOK c real := by
  have h0 := h.check (Int.le_refl _) (by omega) he hb hc
  have ht := h.truth
  have hf := ht.fine
  have hev := checkC_ev h0
  have hfb : Fine (belL allT c) := by rw [belL_all]; exact hf
  have htb : TruthOf (belL allT c) (fun k => real.getD k 0) := by rw [belL_all]; exact ht
  have hself : ∀ a : Nat, a < 8 → gapsM allT c a a = 0 := fun a ha => by
    have h1 := gap_le h0 hfb (a := a) (b := a) ha ha (Row.nil _ _)
    simp only [sumW] at h1
    have h2 : gapsM allT c a a ≠ far := by unfold far; omega
    have h3 := htb.gap h0 ha ha h2
    omega
  refine ⟨fun a b ha hb => ?_, fun a b ha hb => ?_, fun a b k ha hb hk h1 h2 => ?_, fun a b ha hb => ?_, fun a at_ s row ha hr hi hal => ?_⟩
  · rw [gap_is h0 hf ha hb]
    by_cases hn : gapsM allT c a b = far
    · rw [if_pos hn]
      refine .inr ⟨rfl, by unfold gst; rw [if_pos hn], fun e => ?_⟩
      subst e
      rw [hself a (by omega)] at hn
      unfold far at hn; omega
    · rw [if_neg hn]
      have h1 := htb.gap h0 (by omega) (by omega) hn
      refine .inl ⟨by rw [gst_is hn], (gst_lt h0 hf (by omega) (by omega)).2 hn, by rw [gst_is hn]; exact h1, fun e => ?_⟩
      subst e
      rw [gst_is hn]; exact hself a (by omega)
  · have := gst_le h0 hf (a := a) (b := b) (by omega) (by omega); omega
  · have n1 := (gst_lt h0 hf (by omega) (by omega)).1 h1
    have n2 := (gst_lt h0 hf (by omega) (by omega)).1 h2
    obtain ⟨l, hl, hs⟩ := gap_row h0 (by omega) (by omega) n1
    obtain ⟨m, hm, hs2⟩ := gap_row h0 (by omega) (by omega) n2
    have h3 := gap_le h0 hfb (a := a) (b := b) (by omega) (by omega) (hl.app hm)
    have n3 := gap_lt_far h0 hfb (a := a) (b := b) (by omega) (by omega) (hl.app hm)
    rw [sumW_app] at h3
    rw [gst_is n1, gst_is n2, gst_is n3]
    omega
  · unfold askOf
    rw [if_pos (asked_two h0 hf ha hb)]
    have e1 := gst_lt h0 hf (a := a) (b := b) (by omega) (by omega)
    have e2 := gst_lt h0 hf (a := b) (b := a) (by omega) (by omega)
    simp only [Int.toNat_natCast]
    by_cases n1 : gapsM allT c a b = far
    · rw [if_pos (.inl n1), if_neg (fun q => absurd n1 (e1.1 q.1))]
    · by_cases n2 : gapsM allT c b a = far
      · rw [if_pos (.inr n2), if_neg (fun q => absurd n2 (e2.1 q.2))]
      · rw [if_neg (fun q => q.elim n1 n2), if_pos ⟨e1.2 n1, e2.2 n2⟩, gst_is n1, gst_is n2]
  · have hall := fun b hb => checkC_bd h0 b hb
    obtain ⟨l, hl, hs, he0, hnil, hlast⟩ := along_row (fun b hb => ⟨(hall b hb).1.1, (hall b hb).2.1.1⟩) hal
    have hevb := (checkC_ok h0).2.2.1
    have hlt : at_ < c.ev := by
      rcases hl' : l.getLast? with _ | x
      · have : l = [] := by simpa using hl'
        have := hnil this
        omega
      · have hx := hlast x hl'
        have hxm := hl.mem x (List.mem_of_getLast? hl')
        have := evOK_get hevb hxm
        omega
    have hlb : Row (belL allT c) a at_.toNat l := by rw [belL_all]; exact hl
    have h1 := gap_le h0 hfb (a := a) (b := at_.toNat) (by omega) (by omega) hlb
    have h2 := gap_lt_far h0 hfb (a := a) (b := at_.toNat) (by omega) (by omega) hlb
    refine ⟨⟨he0, hlt⟩, ?_, by rw [gst_is h2]; omega, (gst_lt h0 hf (by omega) (by omega)).2 h2⟩
    unfold showsOf
    rw [if_neg (by simpa using h0), if_neg (by simp only [Bool.and_eq_false_iff, inB_not]; omega), if_neg (by omega), if_neg (by
      rw [Bool.not_eq_false, List.all_eq_true]
      intro i hq
      have := hi i hq
      exact inB_iff.2 (by omega)), hal]
    simp
end Go.Proofs.Ytgnjhaomlbkgcaa
