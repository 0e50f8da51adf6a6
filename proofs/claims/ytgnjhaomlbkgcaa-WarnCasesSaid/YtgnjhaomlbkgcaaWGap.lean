/- What a case at work computes, as plain functions. No program stands here. -/
import Derived.Test.YtgnjhaomlbkgcaaWBel
import Derived.Test.YtgnjhaomlbkgcaaWDesk
import Derived.Test.YtgnjhaomlbkgcaaWChk
namespace Go.Proofs.Ytgnjhaomlbkgcaa
open Go Go.RowKit
set_option linter.unusedVariables false
set_option linter.unusedSimpArgs false

/-- All witnesses are believed. -/
def allT : Int → Bool := fun _ => true
/-- The gaps of a case, some witnesses being believed. -/
def gapsM (tf : Int → Bool) (c : Cs) : Mat := rnds ((belNum tf c).map (·.2)) 8 init0
def clashM (g : Mat) : Bool := (List.range 8).any fun a => decide (g a a < 0)
/-- The error of a case, or of what cannot all hold. -/
def toldC (c : Cs) : Int := if checkC c = 0 then (if clashM (gapsM allT c) then 7 else 0) else checkC c
def askedC (c : Cs) (l : List Int) : Int := if checkC c = 0 then (if l.all (fun n => inB n 0 (c.ev - 1)) then toldC c else 1) else checkC c
def verdictM (g : Mat) (a b : Nat) : Int := if g b a < 0 then 1 else if g a b ≤ 0 then 2 else 0

theorem limOK_get {l : List Bd} (h : limOK l = true) {b : Bd} (hb : b ∈ l) : -1000 ≤ b.m ∧ b.m ≤ 1000 := by
  simp only [limOK, List.all_eq_true] at h
  exact inB_iff.1 (h b hb)
theorem evOK_get {ev : Int} {l : List Bd} (h : evOK ev l = true) {b : Bd} (hb : b ∈ l) : (0 ≤ b.f ∧ b.f < ev) ∧ 0 ≤ b.t ∧ b.t < ev := by
  simp only [evOK, List.all_eq_true, Bool.and_eq_true, inB_iff] at h
  obtain ⟨⟨h1, h2⟩, h3, h4⟩ := h b hb
  exact ⟨⟨h1, by omega⟩, h3, by omega⟩
theorem checkC_bd {c : Cs} (h : checkC c = 0) : ∀ b ∈ c.all, b.ok := by
  obtain ⟨h1, h2, h3, _, _⟩ := checkC_ok h
  obtain ⟨e1, e2, _⟩ := manyOK_parts h1
  intro b hb
  obtain ⟨⟨a1, a2⟩, a3, a4⟩ := evOK_get h3 hb
  exact ⟨⟨a1, by omega⟩, ⟨a3, by omega⟩, limOK_get h2 hb⟩
theorem checkC_52 {c : Cs} (h : checkC c = 0) : c.all.length ≤ 52 := all_len (checkC_ok h).1
theorem checkC_ev {c : Cs} (h : checkC c = 0) : 1 ≤ c.ev ∧ c.ev ≤ 8 := by
  obtain ⟨e1, e2, _⟩ := manyOK_parts (checkC_ok h).1
  exact ⟨e1, e2⟩
theorem bel_len' (tf : Int → Bool) (c : Cs) : ((belNum tf c).map (·.2)).length ≤ c.all.length := by
  have h1 : ∀ (n : Nat) (l : List Bd), (numFrom n l).length = l.length := by
    intro n l
    induction l generalizing n with
    | nil => rfl
    | cons b l ih => simp [numFrom, ih]
  have h2 : ∀ (l : List Cl) (n : Nat), (clNum tf n l).length ≤ (l.flatMap (·.bs)).length := by
    intro l
    induction l with
    | nil => intro n; simp [clNum]
    | cons x l ih =>
      intro n
      have := ih (n + x.bs.length)
      simp only [clNum, List.length_append, List.flatMap_cons]
      cases hq : tf x.w
      · simp only [Bool.false_eq_true, if_false, List.length_nil]; omega
      · simp only [if_true, h1]; omega
  have := h2 c.cl c.bs.length
  simp only [belNum, Cs.all, List.length_map, List.length_append, h1]
  omega
theorem bel_mem' {tf : Int → Bool} {c : Cs} {b : Bd} (h : b ∈ (belNum tf c).map (·.2)) : b ∈ c.all := by
  have h1 : ∀ (n : Nat) (l : List Bd), (numFrom n l).map (·.2) = l := by
    intro n l
    induction l generalizing n with
    | nil => rfl
    | cons b l ih => simp [numFrom, ih]
  have h2 : ∀ (l : List Cl) (n : Nat), b ∈ (clNum tf n l).map (·.2) → b ∈ l.flatMap (·.bs) := by
    intro l
    induction l with
    | nil => intro n h; simp [clNum] at h
    | cons x l ih =>
      intro n h
      simp only [clNum, List.map_append, List.mem_append] at h
      rw [List.flatMap_cons, List.mem_append]
      rcases h with h | h
      · left
        cases hq : tf x.w
        · simp [hq] at h
        · simp only [hq, if_true, h1] at h; exact h
      · exact .inr (ih _ h)
  simp only [belNum, List.map_append, List.mem_append, h1] at h
  unfold Cs.all
  rw [List.mem_append]
  rcases h with h | h
  · exact .inl h
  · exact .inr (h2 _ _ h)
theorem Low.rnds {L : List Bd} (hb : ∀ b ∈ L, b.ok) : ∀ (n : Nat) {K : Int} {g : Mat}, Low K g → 0 ≤ K → Low (K + n * L.length) (Go.Proofs.Ytgnjhaomlbkgcaa.rnds L n g) := by
  intro n
  induction n with
  | zero => intro K g h _; simpa [Go.Proofs.Ytgnjhaomlbkgcaa.rnds] using h
  | succ n ih =>
    intro K g h hK
    have := ih (h.relaxL hb hK) (by omega)
    rw [show K + ((n + 1 : Nat) : Int) * (L.length : Int) = K + (L.length : Int) + n * (L.length : Int) by rw [Int.natCast_add, Int.add_mul]; simp; omega]
    exact this
theorem gapsM_low {tf : Int → Bool} {c : Cs} (h : checkC c = 0) : Low 416 (gapsM tf c) := by
  have h1 : ∀ b ∈ (belNum tf c).map (·.2), b.ok := fun b hb => checkC_bd h b (bel_mem' hb)
  have h2 := Low.init.rnds h1 8 (by omega)
  have h3 := bel_len' tf c
  have h4 := checkC_52 h
  exact h2.mono (by omega)

/-- A desk as a value. -/
def DeskR (w : World) (v : Value) (c : Cs) (g : Mat) : Prop := ∃ D A1 c1 A2 c2, v = .pointer (some ⟨D, 0, none⟩) ∧ Desk w D A1 c1 A2 c2 c g ∧ Bounds w A1 c.bs ∧ Claims w A2 c.cl
theorem DeskR.ext {w w' : World} {v : Value} {c : Cs} {g : Mat} (h : DeskR w v c g) (hx : Ext w w') : DeskR w' v c g := by
  obtain ⟨D, A1, c1, A2, c2, h1, h2, h3, h4⟩ := h
  exact ⟨D, A1, c1, A2, c2, h1, h2.ext hx, h3.ext hx, h4.ext hx⟩

theorem toldC_check {c : Cs} (h : toldC c = 0) : checkC c = 0 := by
  unfold toldC at h
  split at h
  · assumption
  · exact h
theorem askedC_check {c : Cs} {l : List Int} (h : askedC c l = 0) : checkC c = 0 := by
  unfold askedC at h
  split at h
  · assumption
  · exact h
theorem askedC_parts {c : Cs} {l : List Int} (h : askedC c l = 0) : checkC c = 0 ∧ toldC c = 0 ∧ ∀ n ∈ l, 0 ≤ n ∧ n < c.ev := by
  have h0 := askedC_check h
  unfold askedC at h
  rw [if_pos h0] at h
  split at h
  · rename_i h1
    refine ⟨h0, h, fun n hn => ?_⟩
    have := inB_iff.1 (List.all_eq_true.1 h1 n hn)
    omega
  · cases h
end Go.Proofs.Ytgnjhaomlbkgcaa
