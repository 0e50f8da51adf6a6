/- Rows of truth values in a block; how the reference finds a distance. Printed by my gen_fref3.py. -/
import Derived.Test.YtlonpgbapiemcaaGreatG4
import Derived.Test.YtlonpgbapiemcaaGreatG1
namespace Go.Proofs.YtlonpgbapiemcaaGreat
open Go Go.RowKit
set_option linter.unusedVariables false
set_option linter.unusedSimpArgs false

def upd1 {α : Type} (f : Nat → α) (k : Nat) (x : α) : Nat → α := fun i => if i = k then x else f i
/-! ### Rows of so many values of a function -/
def rl {α : Type} (n : Nat) (f : Nat → α) : List α := (List.range n).map f
theorem rl_len {α : Type} (n : Nat) (f : Nat → α) : (rl n f).length = n := by simp [rl]
theorem rl_get {α : Type} {n : Nat} (f : Nat → α) {k : Nat} (h : k < n) : (rl n f)[k]? = some (f k) := by simp [rl, h]
theorem rl_upd {α : Type} (n : Nat) (f : Nat → α) (k : Nat) (x : α) : rl n (upd1 f k x) = (rl n f).set k x := by
  apply List.ext_getElem?
  intro i
  rw [List.getElem?_set]
  rcases Nat.lt_or_ge i n with hi | hi
  · rw [rl_get _ hi, rl_get _ hi, rl_len]
    unfold upd1
    by_cases hk : i = k
    · subst hk; simp [hi]
    · rw [if_neg hk, if_neg (fun h => hk h.symm)]
  · have h1 : (rl n (upd1 f k x))[i]? = none := List.getElem?_eq_none (by rw [rl_len]; exact hi)
    have h2 : (rl n f)[i]? = none := List.getElem?_eq_none (by rw [rl_len]; exact hi)
    rw [h1, h2, rl_len]
    by_cases hk : k = i
    · rw [if_pos hk, if_neg (by omega)]
    · rw [if_neg hk]
theorem rl_const {α : Type} (n : Nat) (x : α) : rl n (fun _ => x) = List.replicate n x := by
  apply List.ext_getElem?
  intro i
  simp only [rl, List.getElem?_map, List.getElem?_replicate]
  by_cases hi : i < n
  · simp [hi]
  · rw [List.getElem?_eq_none (by simpa using hi)]; simp [hi]
/-! Rows of truth values -/
def Bools (w : World) (A : Option Addr) (l : List Bool) : Prop := Rd w A (l.map Value.bool)
theorem Bools.ext {w w' : World} {A : Option Addr} {l : List Bool} (h : Bools w A l) (hx : Ext w w') : Bools w' A l := Rd.ext h hx
theorem Bools.at_ {w : World} {A : Option Addr} {l : List Bool} {k : Nat} {x : Bool} (h : Bools w A l) (hk : l[k]? = some x) :
    ∃ b off, A = some ⟨b, off, none⟩ ∧ w.cell? ⟨b, off + k, none⟩ = some (.bool x) := by
  obtain ⟨b, off, hA, hc⟩ := Rd.at_ h (by intro e; have := congrArg List.length e; simp at this; subst this; simp at hk)
  exact ⟨b, off, hA, hc k _ (by simp [hk])⟩
def Brow (w : World) (B : Nat) (l : List Bool) : Prop := w.heap[B]? = some (.cells (l.map Value.bool).toArray 4 (0, 0))
theorem Brow.lt {w : World} {B : Nat} {l : List Bool} (h : Brow w B l) : B < w.heap.size := (Array.getElem?_eq_some_iff.1 h).1
theorem Brow.ext {w w' : World} {B : Nat} {l : List Bool} (h : Brow w B l) (hx : Ext w w') : Brow w' B l := (Below.block hx B h.lt).trans h
theorem Brow.at_ {w : World} {B : Nat} {l : List Bool} (h : Brow w B l) {k : Nat} {x : Bool} (hk : l[k]? = some x) : w.cell? ⟨B, k, none⟩ = some (.bool x) := by
  rw [cell_of_row w B k _ _ _ h]; simp [hk]
theorem Brow.frozen {w : World} {B : Nat} {l : List Bool} (h : Brow w B l) (k : Nat) : w.frozen? ⟨B, k, none⟩ = false := by
  unfold Brow at h
  simp [World.frozen?, h]
theorem Brow.set {w : World} {B : Nat} {l : List Bool} (h : Brow w B l) (k : Nat) (x : Bool) : Brow (w.setCell ⟨B, k, none⟩ (.bool x)) B (l.set k x) := by
  unfold Brow at h ⊢
  simp only [World.setCell, Array.getElem?_modify, h, if_true, Option.map_some]
  simp only [List.setIfInBounds_toArray, List.map_set, Option.isSome_none, Bool.false_eq_true, if_false]
theorem Brow.bools {w : World} {B : Nat} {l : List Bool} (h : Brow w B l) : Bools w (some ⟨B, 0, none⟩) l :=
  .inr ⟨B, 0, rfl, fun j u hu => by
    rw [Nat.zero_add]
    obtain ⟨x, hx, rfl⟩ : ∃ x, l[j]? = some x ∧ Value.bool x = u := by simpa using hu
    exact h.at_ hx⟩
theorem Brow.setne {w : World} {B : Nat} {l : List Bool} (h : Brow w B l) (p : Addr) (u : Value) (hp : B ≠ p.block) : Brow (w.setCell p u) B l := (heap_setCell_ne _ _ _ _ hp).trans h

theorem infoBool : (Tryz.prog.info? 4).map (fun i => (i.zero, i.size, i.bytes)) = some (some (.bool false), 1, 1) := by kernel_rfl
theorem made_brow (n : Nat) : madeCells #[.bool false] n = ((List.replicate n false).map Value.bool).toArray := by
  apply Array.ext
  · simp [madeCells]
  · intro i h1 h2
    simp [madeCells, Nat.mod_one]


/-- Where one can be after n steps, as the reference lays it. -/
def nowF (f : Fg) (P a : Nat) : Nat → Nat → Bool
  | 0, x => decide (x = a)
  | n + 1, x => (List.range P).any fun y => nowF f P a n y && besideB f y x
theorem nowF_iff {f : Fg} (h : FogOK f) {a : Nat} (ha : a < f.pl.toNat) : ∀ (n : Nat) {x : Nat}, x < f.pl.toNat → (nowF f f.pl.toNat a n x = true ↔ Go_ f n a x)
  | 0, x, hx => by
    simp only [nowF, decide_eq_true_eq]
    constructor
    · rintro rfl; exact .here _
    · intro h; cases h; rfl
  | n + 1, x, hx => by
    have ih := fun {y : Nat} (hy : y < f.pl.toNat) => nowF_iff h ha n hy
    simp only [nowF, List.any_eq_true, List.mem_range, Bool.and_eq_true, besideB_iff]
    constructor
    · rintro ⟨y, hy, h1, h2 | h2⟩
      · subst h2; exact ((ih hy).1 h1).stay
      · exact ((ih hy).1 h1).step h2
    · intro hg
      cases hg with
      | stay k => exact ⟨x, hx, (ih hx).2 k, .inl rfl⟩
      | step k e =>
        rename_i y
        have hy : y < f.pl.toNat := k.lt (P := f.pl.toNat) (fun t ht => by have := h.tr t ht; omega) ha
        exact ⟨y, hy, (ih hy).2 k, .inr e⟩
/-- The distance as the reference tells it. -/
def farR (f : Fg) (a b : Nat) : Int := if farM f a b < noWay then farM f a b else -1
theorem farR_found {f : Fg} (h : FogOK f) {a b n : Nat} (ha : a < f.pl.toNat) (hb : b < f.pl.toNat) (hn : n ≤ 8) (h1 : nowF f f.pl.toNat a n b = true) (h2 : ∀ m, m < n → nowF f f.pl.toNat a m b = false) : farR f a b = n := by
  have hp := h.pl
  have hi := fun m (hm : m ≤ 8) => (far_ok h).iff (n := m) h (show a < 8 by omega) (show b < 8 by omega) (by unfold noWay; omega)
  have e1 := (hi n hn).1 ((nowF_iff h ha n hb).1 h1)
  have hlo := (far_ok h).dst.lo a b (by omega) (by omega)
  have e2 : (n : Int) ≤ farM f a b := by
    rcases Nat.lt_or_ge (farM f a b).toNat n with hlt | hge
    · exfalso
      have h3 := h2 _ hlt
      have h4 := (nowF_iff h ha (farM f a b).toNat hb).2 ((hi _ (by omega)).2 (by omega))
      rw [h3] at h4; cases h4
    · omega
  unfold farR
  rw [if_pos (by unfold noWay; omega)]
  omega
theorem farR_none {f : Fg} (h : FogOK f) {a b n : Nat} (ha : a < f.pl.toNat) (hb : b < f.pl.toNat) (hn : (f.pl : Int) < n) (h2 : ∀ m, m < n → nowF f f.pl.toNat a m b = false) : farR f a b = -1 := by
  have hp := h.pl
  unfold farR
  split
  · exfalso
    rename_i hlt
    have h3 := far_lt (far_ok h) h ha hb hlt
    have hlo := (far_ok h).dst.lo a b (by omega) (by omega)
    have h4 := (nowF_iff h ha (farM f a b).toNat hb).2 (((far_ok h).iff h (show a < 8 by omega) (show b < 8 by omega) (by unfold noWay; omega)).2 (by omega))
    rw [h2 _ (by omega)] at h4; cases h4
  · rfl
end Go.Proofs.YtlonpgbapiemcaaGreat
