/- The reference's round along all bounds and who claims them; rows made of a function. No program stands here. -/
import Derived.Test.YtgnjhaomlbkgcaaRefP
import Derived.Test.YtgnjhaomlbkgcaaRef1
import Derived.Test.YtgnjhaomlbkgcaaWBelP
namespace Go.Proofs.Ytgnjhaomlbkgcaa
open Go Go.RowKit
set_option linter.unusedVariables false
set_option linter.unusedSimpArgs false

/-- The bounds, each with who claims it. -/
def zipL (c : Cs) : List (Bd × Int) := c.all.zip (whoL c)
def gstepW (tf : Int → Bool) (s : GS) (p : Bd × Int) : GS := if p.2 < 0 ∨ tf p.2 = true then gstep s p.1 else s
def gpassW (tf : Int → Bool) (s : GS) (Z : List (Bd × Int)) : GS := Z.foldl (gstepW tf) s
theorem zip_m1 : ∀ (l : List Bd) (tf : Int → Bool) (s : GS), gpassW tf s (l.zip (m1 l)) = gpass s l := by
  intro l tf
  induction l with
  | nil => exact fun _ => rfl
  | cons b l ih => intro s; exact ih (gstep s b)
theorem zip_mw : ∀ (l : List Bd) (x : Int) (tf : Int → Bool) (s : GS), 0 ≤ x → gpassW tf s (l.zip (l.map fun _ => x)) = gpass s (if tf x = true then l else []) := by
  intro l x tf
  induction l with
  | nil => intro s _; split <;> rfl
  | cons b l ih =>
    intro s hx
    show gpassW tf (gstepW tf s (b, x)) (l.zip (l.map fun _ => x)) = _
    rw [ih _ hx]
    by_cases ht : tf x = true
    · rw [if_pos ht, if_pos ht]
      show gpass (gstepW tf s (b, x)) l = gpass (gstep s b) l
      unfold gstepW
      rw [if_pos (.inr ht)]
    · rw [if_neg ht, if_neg ht]
      show gstepW tf s (b, x) = s
      unfold gstepW
      rw [if_neg (by simp only [not_or]; exact ⟨by omega, ht⟩)]
theorem gpassW_app (tf : Int → Bool) (s : GS) (Y Z : List (Bd × Int)) : gpassW tf s (Y ++ Z) = gpassW tf (gpassW tf s Y) Z := by simp [gpassW]
theorem gpass_app (s : GS) (Y Z : List Bd) : gpass s (Y ++ Z) = gpass (gpass s Y) Z := by simp [gpass]
theorem gpassW_is {tf : Int → Bool} {c : Cs} (hw : ∀ x ∈ c.cl, 0 ≤ x.w) (s : GS) : gpassW tf s (zipL c) = gpass s (belL tf c) := by
  have h : ∀ (l : List Cl) (s : GS), (∀ x ∈ l, 0 ≤ x.w) → gpassW tf s ((l.flatMap (·.bs)).zip (l.flatMap mw)) = gpass s ((l.filter fun x => tf x.w).flatMap (·.bs)) := by
    intro l
    induction l with
    | nil => exact fun _ _ => rfl
    | cons x l ih =>
      intro s hx
      rw [List.flatMap_cons, List.flatMap_cons, List.zip_append (by rw [mw_len]), gpassW_app, ih _ (fun y hy => hx y (by simp [hy]))]
      have h1 := zip_mw x.bs x.w tf s (hx x (by simp))
      have h2 : mw x = x.bs.map fun _ => x.w := rfl
      rw [h2, h1]
      cases ht : tf x.w
      · simp [ht, gpass]
      · simp only [List.filter_cons, ht, if_true, List.flatMap_cons, gpass_app]
  unfold zipL Cs.all whoL
  rw [List.zip_append (by rw [m1_len]), gpassW_app, zip_m1, h _ _ hw, belL_split, gpass_app]
theorem zipL_len (c : Cs) : (zipL c).length = c.all.length := by simp [zipL, whoL_len]
theorem zipL_get {c : Cs} {i : Nat} {b : Bd} (h : c.all[i]? = some b) : ∃ x, (whoL c)[i]? = some x ∧ (zipL c)[i]? = some (b, x) := by
  have hi : i < c.all.length := (List.getElem?_eq_some_iff.1 h).1
  obtain ⟨x, hx⟩ := get_of_lt (whoL c) i (by rw [whoL_len]; exact hi)
  exact ⟨x, hx, by simp [zipL, List.getElem?_zip_eq_some, h, hx]⟩
theorem whoL_mem {c : Cs} {i : Nat} {x : Int} (h : (whoL c)[i]? = some x) : x = -1 ∨ ∃ y ∈ c.cl, x = y.w := by
  have := List.mem_of_getElem? h
  unfold whoL m1 mw at this
  rw [List.mem_append] at this
  rcases this with h | h
  · left; simp at h; exact h.2.symm
  · right
    obtain ⟨y, hy, h⟩ := List.mem_flatMap.1 h
    obtain ⟨_, _, rfl⟩ := List.mem_map.1 h
    exact ⟨y, hy, rfl⟩
theorem gpassW_next (tf : Int → Bool) (s : GS) {Z : List (Bd × Int)} {i : Nat} {p : Bd × Int} (h : Z[i]? = some p) : gpassW tf s (Z.take (i + 1)) = gstepW tf (gpassW tf s (Z.take i)) p := by
  rw [take_next h, gpassW_app]; rfl
theorem gstepW_skip {tf : Int → Bool} {s : GS} {b : Bd} {x : Int} (h : ¬ (x < 0 ∨ tf x = true)) : gstepW tf s (b, x) = s := by unfold gstepW; rw [if_neg h]
theorem gstepW_do {tf : Int → Bool} {s : GS} {b : Bd} {x : Int} (h : x < 0 ∨ tf x = true) : gstepW tf s (b, x) = gstep s b := by unfold gstepW; rw [if_pos h]
theorem gstep_no1 {s : GS} {fn tn : Nat} {m : Int} (h : s.is fn = false) : gstep s ⟨fn, tn, m⟩ = s := by
  unfold gstep; simp [h]
theorem gstep_no2 {s : GS} {fn tn : Nat} {m : Int} (h : s.is tn = true) (h2 : ¬ s.sm fn + m < s.sm tn) : gstep s ⟨fn, tn, m⟩ = s := by
  unfold gstep; simp [h, h2]
theorem gstep_yes {s : GS} {fn tn : Nat} {m : Int} (h : s.is fn = true) (h2 : s.is tn = false ∨ s.sm fn + m < s.sm tn) : gstep s ⟨fn, tn, m⟩ = ⟨upd1 s.sm tn (s.sm fn + m), upd1 s.is tn true, true⟩ := by
  unfold gstep; simp only [Int.toNat_natCast]; rw [if_pos ⟨h, h2⟩]
theorem GLow.stepW {tf : Int → Bool} {K : Int} {s : GS} (h : GLow K s) {p : Bd × Int} (hb : p.1.ok) (hK : 0 ≤ K) : GLow (K + 1) (gstepW tf s p) := by
  unfold gstepW
  split
  · exact h.step hb hK
  · exact h.mono (by omega)

/-! ### Rows of so many values of a function -/
def rl {α : Type} (n : Nat) (f : Nat → α) : List α := (List.range n).map f
theorem rl_len {α : Type} (n : Nat) (f : Nat → α) : (rl n f).length = n := by simp [rl]
theorem rl_get {α : Type} {n : Nat} (f : Nat → α) {k : Nat} (h : k < n) : (rl n f)[k]? = some (f k) := by simp [rl, h]
theorem rl_upd {α : Type} (n : Nat) (f : Nat → α) (k : Nat) (x : α) : rl n (upd1 f k x) = (rl n f).set k x := by
  apply List.ext_getElem?
  intro i
  rw [List.getElem?_set]
  rcases Nat.lt_or_ge i n with hi | hi
  · rw [rl_get _ hi, rl_get _ hi, rl_len]
    unfold upd1
    by_cases hk : i = k
    · subst hk; simp [hi]
    · rw [if_neg hk, if_neg (fun h => hk h.symm)]
  · have h1 : (rl n (upd1 f k x))[i]? = none := List.getElem?_eq_none (by rw [rl_len]; exact hi)
    have h2 : (rl n f)[i]? = none := List.getElem?_eq_none (by rw [rl_len]; exact hi)
    rw [h1, h2, rl_len]
    by_cases hk : k = i
    · rw [if_pos hk, if_neg (by omega)]
    · rw [if_neg hk]
theorem rl_const {α : Type} (n : Nat) (x : α) : rl n (fun _ => x) = List.replicate n x := by
  apply List.ext_getElem?
  intro i
  simp only [rl, List.getElem?_map, List.getElem?_replicate]
  by_cases hi : i < n
  · simp [hi]
  · rw [List.getElem?_eq_none (by simpa using hi)]; simp [hi]
end Go.Proofs.Ytgnjhaomlbkgcaa
