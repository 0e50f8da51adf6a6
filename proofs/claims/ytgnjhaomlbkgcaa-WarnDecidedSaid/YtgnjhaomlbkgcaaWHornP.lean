/- What the chapter's examples give. No program stands here. -/
import Derived.Test.YtgnjhaomlbkgcaaWMadeP
import Derived.Test.YtgnjhaomlbkgcaaWAsk2
import Derived.Test.YtgnjhaomlbkgcaaWLiars2
import Derived.Test.YtgnjhaomlbkgcaaWRing
namespace Go.Proofs.Ytgnjhaomlbkgcaa
open Go Go.RowKit
set_option linter.unusedVariables false
set_option linter.unusedSimpArgs false

def hornC (l : List Cl) : Cs := ⟨4, [⟨0, 1, 30⟩, ⟨1, 0, 0⟩, ⟨1, 2, 6⟩, ⟨2, 1, -2⟩, ⟨0, 3, 50⟩, ⟨3, 0, -40⟩], 2, l⟩
def lieL : List Cl := [⟨0, [⟨1, 0, -50⟩]⟩]
def tru (a b c d : Int) : Nat → Int := fun k => match k with | 0 => a | 1 => b | 2 => c | _ => d
theorem gap_eq {tf : Int → Bool} {c : Cs} {t : Nat → Int} (h0 : checkC c = 0) (ht : TruthOf (belL tf c) t) {a b : Nat} (ha : a < 8) (hb : b < 8) {l : List Bd} (hr : Row (belL tf c) a b l) (hs : sumW l = t b - t a) : gapsM tf c a b = t b - t a := by
  have h1 := gap_le h0 ht.fine ha hb hr
  have h2 := ht.gap h0 ha hb (gap_lt_far h0 ht.fine ha hb hr)
  omega
theorem horn_check (l : List Cl) (h : l = [] ∨ l = lieL) : checkC (hornC l) = 0 := by
  rcases h with rfl | rfl <;> decide
theorem horn_truth {t : Nat → Int} (h : ∀ x ∈ (hornC []).bs, t x.t.toNat ≤ t x.f.toNat + x.m) : TruthOf (belL allT (hornC [])) t := by
  rw [belL_all]
  intro x hx
  exact h x (by simpa [Cs.all, hornC] using hx)
theorem horn_t1 : TruthOf (belL allT (hornC [])) (tru 0 30 36 40) := horn_truth (by decide)
theorem horn_t2 : TruthOf (belL allT (hornC [])) (tru 0 0 2 50) := horn_truth (by decide)
theorem horn_row {a b : Nat} {l : List Bd} (hm : ∀ x ∈ l, x ∈ (hornC []).bs) (hc : chn a l) (he : endW a l = b) : Row (belL allT (hornC [])) a b l := by
  rw [belL_all]
  exact ⟨fun x hx => by have := hm x hx; simpa [Cs.all, hornC] using this, hc, he⟩
theorem horn_g02 : gapsM allT (hornC []) 0 2 = 36 :=
  gap_eq (l := [⟨0, 1, 30⟩, ⟨1, 2, 6⟩]) (horn_check [] (.inl rfl)) horn_t1 (by omega) (by omega) (horn_row (by decide) ⟨rfl, rfl, trivial⟩ rfl) rfl
theorem horn_g32 : gapsM allT (hornC []) 3 2 = -4 :=
  gap_eq (l := [⟨3, 0, -40⟩, ⟨0, 1, 30⟩, ⟨1, 2, 6⟩]) (horn_check [] (.inl rfl)) horn_t1 (by omega) (by omega) (horn_row (by decide) ⟨rfl, rfl, rfl, trivial⟩ rfl) rfl
theorem horn_g23 : gapsM allT (hornC []) 2 3 = 48 :=
  gap_eq (l := [⟨2, 1, -2⟩, ⟨1, 0, 0⟩, ⟨0, 3, 50⟩]) (horn_check [] (.inl rfl)) horn_t2 (by omega) (by omega) (horn_row (by decide) ⟨rfl, rfl, rfl, trivial⟩ rfl) rfl
theorem horn_fine : Fine (hornC []).all := by rw [← belL_all]; exact horn_t1.fine
theorem horn_gap : gapOf (hornC []) 0 2 = (36, 0) := by
  have := gap_is (a := 0) (b := 2) (horn_check [] (.inl rfl)) horn_fine (by decide) (by decide)
  rw [horn_g02] at this
  exact this
theorem horn_before : beforeOf (hornC []) 2 3 = (1, 0) := by
  have := before_is (a := 2) (b := 3) (horn_check [] (.inl rfl)) horn_fine (by decide) (by decide)
  unfold verdictM at this
  rw [horn_g32] at this
  exact this
theorem horn_ask : askOf (hornC []) 2 3 = ((4, 48), 0) := by
  have h1 : askedC (hornC []) [2, 3] = 0 := asked_two (a := 2) (b := 3) (horn_check [] (.inl rfl)) horn_fine (by decide) (by decide)
  unfold askOf
  rw [if_pos h1]
  show (if gapsM allT (hornC []) 2 3 = far ∨ gapsM allT (hornC []) 3 2 = far then _ else ((-gapsM allT (hornC []) 3 2, gapsM allT (hornC []) 2 3), 0)) = _
  rw [horn_g32, horn_g23]
  rfl
theorem horn_shows : showsOf (hornC []) 3 2 [5, 0, 2] = (-4, 0) := by
  unfold showsOf
  rw [if_neg (by rw [horn_check [] (.inl rfl)]; decide)]
  decide
theorem horn_ring : ringC (hornC []) = 6 := by
  unfold ringC
  rw [horn_check [] (.inl rfl), clash_of (horn_check [] (.inl rfl)) (by rw [belL_all]; exact horn_fine)]
  rfl
theorem lie_ring {tf : Int → Bool} (h : tf 0 = true) : clashM (gapsM tf (hornC lieL)) = true := by
  cases hc : clashM (gapsM tf (hornC lieL)) with
  | true => rfl
  | false =>
    have hf := fine_of (horn_check lieL (.inr rfl)) hc
    have hb : belL tf (hornC lieL) = (hornC lieL).bs ++ [⟨1, 0, -50⟩] := by
      unfold belL belNum hornC lieL
      simp [numFrom, clNum, h]
    have := hf 0 [⟨0, 1, 30⟩, ⟨1, 0, -50⟩] (by omega) ⟨by rw [hb]; decide, ⟨rfl, rfl, trivial⟩, rfl⟩
    exact absurd this (by decide)
theorem lie_told : toldC (hornC lieL) = 7 := by
  unfold toldC
  rw [if_pos (horn_check lieL (.inr rfl)), lie_ring rfl]
  rfl
theorem lie_p0 : liarsP (hornC lieL) [] = false := by
  unfold liarsP
  rw [lie_ring rfl]; rfl
theorem lie_p1 : liarsP (hornC lieL) [0] = true := by
  unfold liarsP
  rw [clash_of (horn_check lieL (.inr rfl))]; rfl
  have hb : belL (fun n => !memI n [0]) (hornC lieL) = (hornC lieL).bs := by
    unfold belL belNum hornC lieL
    simp [numFrom, clNum, memI]
  rw [hb]
  exact TruthOf.fine (t := tru 0 30 36 40) (show ∀ x ∈ (hornC lieL).bs, tru 0 30 36 40 x.t.toNat ≤ tru 0 30 36 40 x.f.toNat + x.m by decide)
theorem lie_few : fewL (liarsP (hornC lieL)) (hornC lieL).wi.toNat = some [0] := by
  show fewL (liarsP (hornC lieL)) 2 = some [0]
  simp [fewL, tryL, moreL, lie_p0, lie_p1]
theorem lie_liars : liarsC (hornC lieL) = 0 := by
  unfold liarsC
  rw [lie_few, horn_check lieL (.inr rfl)]
  rfl
end Go.Proofs.Ytgnjhaomlbkgcaa
