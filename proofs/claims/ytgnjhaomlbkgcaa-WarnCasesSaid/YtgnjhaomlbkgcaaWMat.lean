/- The gaps of a case as a matrix of numbers, and what is done to it. No program stands here. -/
import Derived.Test.YtgnjhaomlbkgcaaWSpec
namespace Go.Proofs.Ytgnjhaomlbkgcaa
open Go Go.RowKit
set_option linter.unusedVariables false
set_option linter.unusedSimpArgs false

def far : Int := 1099511627776
abbrev Mat := Nat → Nat → Int
def gl (g : Mat) : List Int := (List.range 64).map fun i => g (i / 8) (i % 8)
def init0 : Mat := fun a b => if a = b then 0 else far
/-- The matrix of nothing but noughts, in which the places ahead of (a, b) have been laid already. -/
def initTo (a b : Nat) : Mat := fun x y => if x < a ∨ (x = a ∧ y < b) then init0 x y else 0
def relax1 (g : Mat) (b : Bd) : Mat := fun a t => if t = b.t.toNat ∧ g a b.f.toNat ≠ far then min (g a t) (g a b.f.toNat + b.m) else g a t
def relaxTo (g : Mat) (b : Bd) (n : Nat) : Mat := fun x t => if x < n then relax1 g b x t else g x t
def relaxL (g : Mat) (L : List Bd) : Mat := L.foldl relax1 g
def rnds (L : List Bd) : Nat → Mat → Mat
  | 0, g => g
  | k + 1, g => rnds L k (relaxL g L)
def upd (g : Mat) (a b : Nat) (x : Int) : Mat := fun p q => if p = a ∧ q = b then x else g p q

theorem gl_len (g : Mat) : (gl g).length = 64 := by simp [gl]
theorem gl_get (g : Mat) (a b : Nat) (ha : a < 8) (hb : b < 8) : (gl g)[a * 8 + b]? = some (g a b) := by
  have h : a * 8 + b < 64 := by omega
  simp only [gl, List.getElem?_map, List.getElem?_range h, Option.map_some]
  congr 2 <;> omega
theorem gl_congr {g g' : Mat} (h : ∀ a b, a < 8 → b < 8 → g a b = g' a b) : gl g = gl g' := by
  unfold gl
  apply List.map_congr_left
  intro i hi
  simp at hi
  exact h _ _ (by omega) (by omega)
theorem gl_eq {g g' : Mat} (h : gl g = gl g') (a b : Nat) (ha : a < 8) (hb : b < 8) : g a b = g' a b := by
  have h1 := gl_get g a b ha hb
  rw [h, gl_get g' a b ha hb] at h1
  exact (Option.some.inj h1).symm
theorem gl_upd (g : Mat) (a b : Nat) (x : Int) (ha : a < 8) (hb : b < 8) : gl (upd g a b x) = (gl g).set (a * 8 + b) x := by
  apply List.ext_getElem?
  intro i
  rw [List.getElem?_set]
  rcases Nat.lt_or_ge i 64 with hi | hi
  · have e : i = i / 8 * 8 + i % 8 := by omega
    have h1 := gl_get (upd g a b x) (i / 8) (i % 8) (by omega) (by omega)
    have h2 := gl_get g (i / 8) (i % 8) (by omega) (by omega)
    rw [← e] at h1 h2
    rw [h1, h2, gl_len]
    unfold upd
    by_cases hab : a * 8 + b = i
    · rw [if_pos (by omega), if_pos hab, if_pos (by omega)]
    · rw [if_neg (by omega), if_neg hab]
  · rw [List.getElem?_eq_none (by rw [gl_len]; omega), if_neg (by omega), List.getElem?_eq_none (by rw [gl_len]; omega)]

/-! ### Ranges -/
def Eq8 (g g' : Mat) : Prop := ∀ a b, a < 8 → b < 8 → g a b = g' a b
theorem Eq8.refl (g : Mat) : Eq8 g g := fun _ _ _ _ => rfl
theorem Eq8.symm {g g' : Mat} (h : Eq8 g g') : Eq8 g' g := fun a b ha hb => (h a b ha hb).symm
theorem Eq8.trans {a b c : Mat} (h : Eq8 a b) (k : Eq8 b c) : Eq8 a c := fun x y hx hy => (h x y hx hy).trans (k x y hx hy)
/-- A bound of events that a case can have, of a number that it may have. -/
def Bd.ok (b : Bd) : Prop := (0 ≤ b.f ∧ b.f < 8) ∧ (0 ≤ b.t ∧ b.t < 8) ∧ -1000 ≤ b.m ∧ b.m ≤ 1000
theorem relax1_congr {g g' : Mat} (h : Eq8 g g') {b : Bd} (hb : b.ok) : Eq8 (relax1 g b) (relax1 g' b) := by
  obtain ⟨⟨h1, h2⟩, ⟨h3, h4⟩, _⟩ := hb
  intro a t ha ht
  unfold relax1
  rw [h a t ha ht, h a b.f.toNat ha (by omega)]
theorem relaxL_congr {g g' : Mat} (h : Eq8 g g') : ∀ {L : List Bd}, (∀ b ∈ L, b.ok) → Eq8 (relaxL g L) (relaxL g' L) := by
  intro L
  induction L generalizing g g' with
  | nil => exact fun _ => h
  | cons b L ih => exact fun hb => ih (relax1_congr h (hb b (by simp))) (fun x hx => hb x (by simp [hx]))
theorem rnds_congr {L : List Bd} (hb : ∀ b ∈ L, b.ok) : ∀ (n : Nat) {g g' : Mat}, Eq8 g g' → Eq8 (rnds L n g) (rnds L n g') := by
  intro n
  induction n with
  | zero => exact fun h => h
  | succ n ih => exact fun h => ih (relaxL_congr h hb)
theorem rnds_fix {L : List Bd} (hb : ∀ b ∈ L, b.ok) {g : Mat} (h : Eq8 (relaxL g L) g) : ∀ n, Eq8 (rnds L n g) g := by
  intro n
  induction n with
  | zero => exact Eq8.refl g
  | succ n ih => exact (rnds_congr hb n h).trans ih
/-- No gap is less than K minutes of a thousand, or more than none. -/
def Low (K : Int) (g : Mat) : Prop := ∀ a b, a < 8 → b < 8 → -(1000 * K) ≤ g a b ∧ g a b ≤ far
theorem Low.init : Low 0 init0 := by
  intro a b _ _
  unfold init0 far
  split <;> omega
theorem Low.mono {K K' : Int} {g : Mat} (h : Low K g) (hk : K ≤ K') : Low K' g := fun a b ha hb => ⟨by have := (h a b ha hb).1; omega, (h a b ha hb).2⟩
theorem Low.congr {K : Int} {g g' : Mat} (h : Low K g) (he : Eq8 g g') : Low K g' := fun a b ha hb => by rw [← he a b ha hb]; exact h a b ha hb
theorem Low.relax1 {K : Int} {g : Mat} (h : Low K g) {b : Bd} (hb : b.ok) (hK : 0 ≤ K) : Low (K + 1) (relax1 g b) := by
  obtain ⟨⟨h1, h2⟩, ⟨h3, h4⟩, h5, h6⟩ := hb
  intro a t ha ht
  have e1 := h a t ha ht
  have e2 := h a b.f.toNat ha (by omega)
  unfold Go.Proofs.Ytgnjhaomlbkgcaa.relax1
  split <;> omega
theorem Low.relaxL {g : Mat} : ∀ {L : List Bd} {K : Int}, Low K g → (∀ b ∈ L, b.ok) → 0 ≤ K → Low (K + L.length) (relaxL g L) := by
  intro L
  induction L generalizing g with
  | nil => intro K h _ _; simpa [Go.Proofs.Ytgnjhaomlbkgcaa.relaxL] using h
  | cons b L ih =>
    intro K h hb hK
    have := ih (h.relax1 (hb b (by simp)) hK) (fun x hx => hb x (by simp [hx])) (by omega)
    rw [List.length_cons, show K + ((L.length + 1 : Nat) : Int) = K + 1 + (L.length : Int) by omega]
    exact this
/-- The places of one bound, row by row. -/
theorem relaxTo_zero (g : Mat) (b : Bd) : relaxTo g b 0 = g := by funext x y; simp [relaxTo]
theorem relaxTo_all (g : Mat) (b : Bd) : Eq8 (relaxTo g b 8) (relax1 g b) := fun x y hx _ => by simp [relaxTo, hx]
theorem relaxTo_row (g : Mat) (b : Bd) (n y : Nat) : relaxTo g b n n y = g n y := by simp [relaxTo]
theorem relaxTo_skip (g : Mat) (b : Bd) (n : Nat) (h : g n b.f.toNat = far) : relaxTo g b (n + 1) = relaxTo g b n := by
  funext x y
  unfold relaxTo
  by_cases h1 : x < n
  · rw [if_pos (by omega), if_pos h1]
  · by_cases h2 : x = n
    · subst h2
      rw [if_pos (by omega), if_neg h1]
      unfold relax1
      rw [if_neg (by simp [h])]
    · rw [if_neg (by omega), if_neg h1]
theorem relaxTo_set (g : Mat) (b : Bd) (n : Nat) (h : g n b.f.toNat ≠ far) : relaxTo g b (n + 1) = upd (relaxTo g b n) n b.t.toNat (min (g n b.t.toNat) (g n b.f.toNat + b.m)) := by
  funext x y
  unfold upd relaxTo
  by_cases h1 : x < n
  · rw [if_pos (by omega), if_neg (by omega), if_pos h1]
  · by_cases h2 : x = n
    · subst h2
      rw [if_pos (by omega), if_neg h1]
      unfold relax1
      by_cases h3 : y = b.t.toNat
      · subst h3
        rw [if_pos ⟨rfl, h⟩, if_pos ⟨rfl, rfl⟩]
      · rw [if_neg (by simp [h3]), if_neg (by simp [h3])]
    · rw [if_neg (by omega), if_neg (by omega), if_neg h1]
theorem relaxL_snoc (g : Mat) (L : List Bd) (b : Bd) : relaxL g (L ++ [b]) = relax1 (relaxL g L) b := by simp [relaxL]
end Go.Proofs.Ytgnjhaomlbkgcaa
