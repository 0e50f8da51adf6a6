/- The plain law of fewest: the first list of the fewest witnesses. No program stands here. -/
import Derived.Test.YtgnjhaomlbkgcaaWFew
namespace Go.Proofs.Ytgnjhaomlbkgcaa
open Go Go.RowKit
set_option linter.unusedVariables false
set_option linter.unusedSimpArgs false

theorem tryL_some {f : Nat → Option (List Int)} {r : List Int} : ∀ (c k : Nat), tryL f k c = some r → ∃ j, k ≤ j ∧ j < k + c ∧ f j = some r ∧ ∀ i, k ≤ i → i < j → f i = none := by
  intro c
  induction c with
  | zero => intro k h; simp [tryL] at h
  | succ c ih =>
    intro k h
    unfold tryL at h
    rcases hf : f k with _ | x
    · rw [hf] at h
      obtain ⟨j, h1, h2, h3, h4⟩ := ih (k + 1) h
      refine ⟨j, by omega, by omega, h3, fun i i1 i2 => ?_⟩
      by_cases e : i = k
      · subst e; exact hf
      · exact h4 i (by omega) i2
    · rw [hf] at h
      cases h
      exact ⟨k, by omega, by omega, hf, fun i i1 i2 => by omega⟩
theorem tryL_none {f : Nat → Option (List Int)} : ∀ (c k : Nat), tryL f k c = none → ∀ j, k ≤ j → j < k + c → f j = none := by
  intro c
  induction c with
  | zero => intro k _ j h1 h2; omega
  | succ c ih =>
    intro k h j h1 h2
    unfold tryL at h
    rcases hf : f k with _ | x
    · rw [hf] at h
      by_cases e : j = k
      · subst e; exact hf
      · exact ih (k + 1) h j (by omega) (by omega)
    · rw [hf] at h; cases h

/-- A list of numbers that grow, from k on, below wi. -/
def Asc : Nat → Nat → List Int → Prop
  | _, _, [] => True
  | k, wi, x :: e => (k : Int) ≤ x ∧ x < wi ∧ Asc (x.toNat + 1) wi e
/-- What slices.Compare answers. -/
def cmpL : List Int → List Int → Int
  | [], [] => 0
  | [], _ :: _ => -1
  | _ :: _, [] => 1
  | x :: a, y :: b => if x < y then -1 else if y < x then 1 else cmpL a b
theorem Asc.len : ∀ {e : List Int} {k wi : Nat}, Asc k wi e → e.length + k ≤ wi ∨ e = [] := by
  intro e
  induction e with
  | nil => exact fun _ => .inr rfl
  | cons x e ih =>
    intro k wi h
    obtain ⟨h1, h2, h3⟩ := h
    left
    rcases ih h3 with h4 | h4
    · simp only [List.length_cons]; omega
    · subst h4; simp; omega
theorem Asc.mem : ∀ {e : List Int} {k wi : Nat}, Asc k wi e → ∀ x ∈ e, (k : Int) ≤ x ∧ x < wi := by
  intro e
  induction e with
  | nil => intro k wi _ x h; cases h
  | cons y e ih =>
    intro k wi h x hx
    obtain ⟨h1, h2, h3⟩ := h
    rcases List.mem_cons.1 hx with rfl | hx
    · exact ⟨h1, h2⟩
    · have := ih h3 x hx; omega
theorem Asc.lt : ∀ {e : List Int} {k wi : Nat}, Asc k wi e → e.Pairwise (· < ·) := by
  intro e
  induction e with
  | nil => exact fun _ => .nil
  | cons y e ih =>
    intro k wi h
    obtain ⟨h1, h2, h3⟩ := h
    exact .cons (fun x hx => by have := h3.mem x hx; omega) (ih h3)
theorem Asc.filter (P : Nat → Bool) (wi : Nat) : ∀ (c k : Nat), k + c = wi → Asc k wi (((List.range' k c).filter P).map (fun n : Nat => (n : Int))) := by
  intro c
  induction c with
  | zero => intro k _; simp [Asc]
  | succ c ih =>
    intro k h
    have h2 := ih (k + 1) (by omega)
    rw [List.range'_succ, List.filter_cons]
    have hup : ∀ {e : List Int}, Asc (k + 1) wi e → Asc k wi e := fun {e} he => by
      cases e with
      | nil => trivial
      | cons y e => exact ⟨by have := he.1; omega, he.2.1, he.2.2⟩
    split
    · simp only [List.map_cons]
      exact ⟨by omega, by omega, by rw [Int.toNat_natCast]; exact h2⟩
    · exact hup h2

theorem moreL_spec (p : List Int → Bool) (wi : Nat) : ∀ (m : Nat) (l : List Int) (k : Nat),
    (∀ r, moreL p wi m l k = some r → ∃ e, r = l ++ e ∧ e.length = m ∧ Asc k wi e ∧ p r = true ∧ ∀ e', e'.length = m → Asc k wi e' → cmpL e' e < 0 → p (l ++ e') = false) ∧
    (moreL p wi m l k = none → ∀ e', e'.length = m → Asc k wi e' → p (l ++ e') = false) := by
  intro m
  induction m with
  | zero =>
    intro l k
    refine ⟨fun r h => ?_, fun h e' he _ => ?_⟩
    · unfold moreL at h
      split at h
      · rename_i hp
        cases h
        refine ⟨[], by simp, rfl, trivial, hp, fun e' he _ hc => ?_⟩
        obtain rfl := List.eq_nil_of_length_eq_zero he
        simp [cmpL] at hc
      · cases h
    · obtain rfl := List.eq_nil_of_length_eq_zero he
      unfold moreL at h
      split at h
      · cases h
      · rename_i hp; simpa using hp
  | succ m ih =>
    intro l k
    have hn : ∀ j : Nat, moreL p wi m (l ++ [(j : Int)]) (j + 1) = none → ∀ x e', x = (j : Int) → e'.length = m → Asc (x.toNat + 1) wi e' → p (l ++ x :: e') = false := fun j hj x e' hx hl ha => by
      subst hx
      have := (ih (l ++ [(j : Int)]) (j + 1)).2 hj e' hl (by rw [Int.toNat_natCast] at ha; exact ha)
      simpa using this
    refine ⟨fun r h => ?_, fun h e' he ha => ?_⟩
    · unfold moreL at h
      obtain ⟨j, j1, j2, j3, j4⟩ := tryL_some _ _ h
      obtain ⟨e, rfl, e1, e2, e3, e4⟩ := (ih (l ++ [(j : Int)]) (j + 1)).1 r j3
      refine ⟨(j : Int) :: e, by simp, by simp [e1], ⟨by omega, by omega, by rw [Int.toNat_natCast]; exact e2⟩, e3, fun e' he ha hc => ?_⟩
      cases e' with
      | nil => simp at he
      | cons x e' =>
        obtain ⟨a1, a2, a3⟩ := ha
        simp only [List.length_cons, Nat.add_right_cancel_iff] at he
        unfold cmpL at hc
        by_cases h1 : x < (j : Int)
        · exact hn x.toNat (j4 x.toNat (by omega) (by omega)) x e' (by omega) he a3
        · rw [if_neg h1] at hc
          by_cases h2 : (j : Int) < x
          · rw [if_pos h2] at hc; omega
          · rw [if_neg h2] at hc
            obtain rfl : x = (j : Int) := by omega
            have := e4 e' he (by rw [Int.toNat_natCast] at a3; exact a3) hc
            simpa using this
    · unfold moreL at h
      cases e' with
      | nil => simp at he
      | cons x e' =>
        obtain ⟨a1, a2, a3⟩ := ha
        simp only [List.length_cons, Nat.add_right_cancel_iff] at he
        exact hn x.toNat (tryL_none _ _ h x.toNat (by omega) (by omega)) x e' (by omega) he a3
/-- A list that is shorter, or as long and comes before. -/
def fewerL (a b : List Int) : Bool := decide (a.length < b.length) || (a.length == b.length && decide (cmpL a b < 0))
theorem fewL_some {p : List Int → Bool} {wi : Nat} {r : List Int} (h : fewL p wi = some r) : Asc 0 wi r ∧ p r = true ∧ ∀ r', Asc 0 wi r' → fewerL r' r = true → p r' = false := by
  unfold fewL at h
  obtain ⟨j, j1, j2, j3, j4⟩ := tryL_some _ _ h
  obtain ⟨e, e0, e1, e2, e3, e4⟩ := (moreL_spec p wi j [] 0).1 r j3
  rw [List.nil_append] at e0
  subst e0
  refine ⟨e2, e3, fun r' ha hf => ?_⟩
  unfold fewerL at hf
  simp only [Bool.or_eq_true, decide_eq_true_eq, Bool.and_eq_true, beq_iff_eq] at hf
  rcases hf with hf | ⟨hf, hc⟩
  · have := (moreL_spec p wi r'.length [] 0).2 (j4 _ (by omega) (by omega)) r' rfl ha
    simpa using this
  · have := e4 r' (by omega) ha hc
    simpa using this
theorem fewL_none {p : List Int → Bool} {wi : Nat} (h : fewL p wi = none) : ∀ r', Asc 0 wi r' → p r' = false := by
  intro r' ha
  unfold fewL at h
  have hl : r'.length < wi + 1 := by
    rcases ha.len with h1 | h1
    · omega
    · subst h1; simp
  have := (moreL_spec p wi r'.length [] 0).2 (tryL_none _ _ h r'.length (by omega) (by omega)) r' rfl ha
  simpa using this
end Go.Proofs.Ytgnjhaomlbkgcaa
