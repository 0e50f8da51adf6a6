/- Rows of truth values in a block; how the reference finds a distance. Printed by my gen_fref3.py. The walk of great. The walk of same over two fogs that are alike. Printed by my gen_fsame.py. The walks of the reference's Beside and Far. Printed by my gen_fref3.py. The walk of the reference's Far. Printed by my gen_fref3.py. -/
import Derived.Test.YtpbpcplboikpcaaGreatFRef1
import Derived.Test.YtpbpcplboikpcaaGreatG1
import Derived.Test.YtpbpcplboikpcaaGreatG2
import Derived.Test.YtpbpcplboikpcaaGreatG5
import Derived.Deep.OwnRows
namespace Go.Proofs.YtpbpcplboikpcaaGreat
open Go Go.RowKit
set_option linter.unusedVariables false
set_option linter.unusedSimpArgs false

def upd1 {α : Type} (f : Nat → α) (k : Nat) (x : α) : Nat → α := fun i => if i = k then x else f i
/-! ### Rows of so many values of a function -/
def rl {α : Type} (n : Nat) (f : Nat → α) : List α := (List.range n).map f
theorem rl_len {α : Type} (n : Nat) (f : Nat → α) : (rl n f).length = n := by simp [rl]
theorem rl_get {α : Type} {n : Nat} (f : Nat → α) {k : Nat} (h : k < n) : (rl n f)[k]? = some (f k) := by simp [rl, h]
theorem rl_upd {α : Type} (n : Nat) (f : Nat → α) (k : Nat) (x : α) : rl n (upd1 f k x) = (rl n f).set k x := by
  apply List.ext_getElem?
  intro i
  rw [List.getElem?_set]
  rcases Nat.lt_or_ge i n with hi | hi
  · rw [rl_get _ hi, rl_get _ hi, rl_len]
    unfold upd1
    by_cases hk : i = k
    · subst hk; simp [hi]
    · rw [if_neg hk, if_neg (fun h => hk h.symm)]
  · have h1 : (rl n (upd1 f k x))[i]? = none := List.getElem?_eq_none (by rw [rl_len]; exact hi)
    have h2 : (rl n f)[i]? = none := List.getElem?_eq_none (by rw [rl_len]; exact hi)
    rw [h1, h2, rl_len]
    by_cases hk : k = i
    · rw [if_pos hk, if_neg (by omega)]
    · rw [if_neg hk]
theorem rl_const {α : Type} (n : Nat) (x : α) : rl n (fun _ => x) = List.replicate n x := by
  apply List.ext_getElem?
  intro i
  simp only [rl, List.getElem?_map, List.getElem?_replicate]
  by_cases hi : i < n
  · simp [hi]
  · rw [List.getElem?_eq_none (by simpa using hi)]; simp [hi]
/-! Rows of truth values -/
def Bools (w : World) (A : Option Addr) (l : List Bool) : Prop := Rd w A (l.map Value.bool)
theorem Bools.ext {w w' : World} {A : Option Addr} {l : List Bool} (h : Bools w A l) (hx : Ext w w') : Bools w' A l := Rd.ext h hx
theorem Bools.at_ {w : World} {A : Option Addr} {l : List Bool} {k : Nat} {x : Bool} (h : Bools w A l) (hk : l[k]? = some x) :
    ∃ b off, A = some ⟨b, off, none⟩ ∧ w.cell? ⟨b, off + k, none⟩ = some (.bool x) := by
  obtain ⟨b, off, hA, hc⟩ := Rd.at_ h (by intro e; have := congrArg List.length e; simp at this; subst this; simp at hk)
  exact ⟨b, off, hA, hc k _ (by simp [hk])⟩
def Brow (w : World) (B : Nat) (l : List Bool) : Prop := w.heap[B]? = some (.cells (l.map Value.bool).toArray 4 (0, 0))
theorem Brow.lt {w : World} {B : Nat} {l : List Bool} (h : Brow w B l) : B < w.heap.size := (Array.getElem?_eq_some_iff.1 h).1
theorem Brow.ext {w w' : World} {B : Nat} {l : List Bool} (h : Brow w B l) (hx : Ext w w') : Brow w' B l := (Below.block hx B h.lt).trans h
theorem Brow.at_ {w : World} {B : Nat} {l : List Bool} (h : Brow w B l) {k : Nat} {x : Bool} (hk : l[k]? = some x) : w.cell? ⟨B, k, none⟩ = some (.bool x) := by
  rw [cell_of_row w B k _ _ _ h]; simp [hk]
theorem Brow.frozen {w : World} {B : Nat} {l : List Bool} (h : Brow w B l) (k : Nat) : w.frozen? ⟨B, k, none⟩ = false := by
  unfold Brow at h
  simp [World.frozen?, h]
theorem Brow.set {w : World} {B : Nat} {l : List Bool} (h : Brow w B l) (k : Nat) (x : Bool) : Brow (w.setCell ⟨B, k, none⟩ (.bool x)) B (l.set k x) := by
  unfold Brow at h ⊢
  simp only [World.setCell, Array.getElem?_modify, h, if_true, Option.map_some]
  simp only [List.setIfInBounds_toArray, List.map_set, Option.isSome_none, Bool.false_eq_true, if_false]
theorem Brow.bools {w : World} {B : Nat} {l : List Bool} (h : Brow w B l) : Bools w (some ⟨B, 0, none⟩) l :=
  .inr ⟨B, 0, rfl, fun j u hu => by
    rw [Nat.zero_add]
    obtain ⟨x, hx, rfl⟩ : ∃ x, l[j]? = some x ∧ Value.bool x = u := by simpa using hu
    exact h.at_ hx⟩
theorem Brow.setne {w : World} {B : Nat} {l : List Bool} (h : Brow w B l) (p : Addr) (u : Value) (hp : B ≠ p.block) : Brow (w.setCell p u) B l := (heap_setCell_ne _ _ _ _ hp).trans h

theorem infoBool : (Tryz.prog.info? 4).map (fun i => (i.zero, i.size, i.bytes)) = some (some (.bool false), 1, 1) := by kernel_rfl
theorem made_brow (n : Nat) : madeCells #[.bool false] n = ((List.replicate n false).map Value.bool).toArray := by
  apply Array.ext
  · simp [madeCells]
  · intro i h1 h2
    simp [madeCells, Nat.mod_one]


/-- Where one can be after n steps, as the reference lays it. -/
def nowF (f : Fg) (P a : Nat) : Nat → Nat → Bool
  | 0, x => decide (x = a)
  | n + 1, x => (List.range P).any fun y => nowF f P a n y && besideB f y x
theorem nowF_iff {f : Fg} (h : FogOK f) {a : Nat} (ha : a < f.pl.toNat) : ∀ (n : Nat) {x : Nat}, x < f.pl.toNat → (nowF f f.pl.toNat a n x = true ↔ Go_ f n a x)
  | 0, x, hx => by
    simp only [nowF, decide_eq_true_eq]
    constructor
    · rintro rfl; exact .here _
    · intro h; cases h; rfl
  | n + 1, x, hx => by
    have ih := fun {y : Nat} (hy : y < f.pl.toNat) => nowF_iff h ha n hy
    simp only [nowF, List.any_eq_true, List.mem_range, Bool.and_eq_true, besideB_iff]
    constructor
    · rintro ⟨y, hy, h1, h2 | h2⟩
      · subst h2; exact ((ih hy).1 h1).stay
      · exact ((ih hy).1 h1).step h2
    · intro hg
      cases hg with
      | stay k => exact ⟨x, hx, (ih hx).2 k, .inl rfl⟩
      | step k e =>
        rename_i y
        have hy : y < f.pl.toNat := k.lt (P := f.pl.toNat) (fun t ht => by have := h.tr t ht; omega) ha
        exact ⟨y, hy, (ih hy).2 k, .inr e⟩
/-- The distance as the reference tells it. -/
def farR (f : Fg) (a b : Nat) : Int := if farM f a b < noWay then farM f a b else -1
theorem farR_found {f : Fg} (h : FogOK f) {a b n : Nat} (ha : a < f.pl.toNat) (hb : b < f.pl.toNat) (hn : n ≤ 8) (h1 : nowF f f.pl.toNat a n b = true) (h2 : ∀ m, m < n → nowF f f.pl.toNat a m b = false) : farR f a b = n := by
  have hp := h.pl
  have hi := fun m (hm : m ≤ 8) => (far_ok h).iff (n := m) h (show a < 8 by omega) (show b < 8 by omega) (by unfold noWay; omega)
  have e1 := (hi n hn).1 ((nowF_iff h ha n hb).1 h1)
  have hlo := (far_ok h).dst.lo a b (by omega) (by omega)
  have e2 : (n : Int) ≤ farM f a b := by
    rcases Nat.lt_or_ge (farM f a b).toNat n with hlt | hge
    · exfalso
      have h3 := h2 _ hlt
      have h4 := (nowF_iff h ha (farM f a b).toNat hb).2 ((hi _ (by omega)).2 (by omega))
      rw [h3] at h4; cases h4
    · omega
  unfold farR
  rw [if_pos (by unfold noWay; omega)]
  omega
theorem farR_none {f : Fg} (h : FogOK f) {a b n : Nat} (ha : a < f.pl.toNat) (hb : b < f.pl.toNat) (hn : (f.pl : Int) < n) (h2 : ∀ m, m < n → nowF f f.pl.toNat a m b = false) : farR f a b = -1 := by
  have hp := h.pl
  unfold farR
  split
  · exfalso
    rename_i hlt
    have h3 := far_lt (far_ok h) h ha hb hlt
    have hlo := (far_ok h).dst.lo a b (by omega) (by omega)
    have h4 := (nowF_iff h ha (farM f a b).toNat hb).2 (((far_ok h).iff h (show a < 8 by omega) (show b < 8 by omega) (by unfold noWay; omega)).2 (by omega))
    rw [h2 _ (by omega)] at h4; cases h4
  · rfl
end Go.Proofs.YtpbpcplboikpcaaGreat

namespace Go.Proofs.YtpbpcplboikpcaaGreat
open Go Go.RowKit
set_option linter.unusedVariables false
set_option linter.unusedSimpArgs false

def greatC (c : Ct) : Bool := decide (12 < c.st.length) || decide (12 < c.rp.length)
def greatF (f : Fg) : Bool := decide (20 < f.tr.length) || decide (12 < f.bl.length) || decide (6 < f.ct.length) || f.ct.any greatC
theorem great_sized {f : Fg} (h : greatF f = false) : f.sized := by
  simp only [greatF, Bool.or_eq_false_iff, decide_eq_false_iff_not, List.any_eq_false, greatC, Bool.or_eq_true, decide_eq_true_eq, not_or] at h
  obtain ⟨⟨⟨h1, h2⟩, h3⟩, h4⟩ := h
  exact ⟨by omega, by omega, by omega, fun x hx => ⟨by have := (h4 x hx).1; omega, by have := (h4 x hx).2; omega⟩⟩
set_option maxRecDepth 100000 in
set_option maxHeartbeats 1000000 in
theorem great_any (v : Value) (f : Fg) (w : World) (hf : FgR w v f) (hl : f.ct.length ≤ 9223372036854775807) :
    Calls Tryz.prog 14 #[v] w fun e w' => e = .returned (.bool (greatF f)) ∧ Ext w w' := by
  obtain ⟨a1, k1, a2, k2, a3, k3, rfl, -, -, hC, -⟩ := hf
  obtain ⟨R, hR⟩ : ∃ R, greatF f = R := ⟨_, rfl⟩
  have HR := hid hR
  rw [hR]
  clear hR
  obtain ⟨W0, hW0⟩ : ∃ W0, w.alloc (.cells #[.int .i64 f.pl, .int .i64 f.mi, .slice a1 f.tr.length k1, .slice a2 f.bl.length k2, .slice a3 f.ct.length k3] 28) = W0 := ⟨_, rfl⟩
  have hx0 : Ext w W0 := by rw [← hW0]; exact Ext.alloc (Ext.refl w) _
  have FX : Hid (∀ w', Ext W0 w' → w'.cell? ⟨w.heap.size, 2, none⟩ = some (.slice a1 f.tr.length k1) ∧ w'.cell? ⟨w.heap.size, 3, none⟩ = some (.slice a2 f.bl.length k2) ∧ w'.cell? ⟨w.heap.size, 4, none⟩ = some (.slice a3 f.ct.length k3)) := fun w' h => ⟨h.cell (by rw [← hW0]; simp [go_sem]), h.cell (by rw [← hW0]; simp [go_sem]), h.cell (by rw [← hW0]; simp [go_sem])⟩
  obtain ⟨q2, q3, q4⟩ := FX.out W0 (Ext.refl _)
  unfold fval
  have HG : Hid (greatF f = (decide (20 < f.tr.length) || decide (12 < f.bl.length) || decide (6 < f.ct.length) || f.ct.any greatC)) := rfl
  by_cases h1 : 20 < f.tr.length
  · have h1' : (20 : Int) < (f.tr.length : Int) := by omega
    have H : Hid (R = true) := by unfold Hid; rw [← HR.out, HG.out, decide_eq_true h1]; simp
    clear h1
    go_enter Tryz.func14, Tryz.ntmps14
    go_wp2
    try rw [hW0]
    go_ret
    exact ⟨ret_of (bool_of H.out.symm), hx0⟩
  have h1' : ¬ (20 : Int) < (f.tr.length : Int) := by omega
  by_cases h2 : 12 < f.bl.length
  · have h2' : (12 : Int) < (f.bl.length : Int) := by omega
    have H : Hid (R = true) := by unfold Hid; rw [← HR.out, HG.out, decide_eq_true h2]; simp
    clear h1 h2
    go_enter Tryz.func14, Tryz.ntmps14
    go_wp2
    try rw [hW0]
    go_ret
    exact ⟨ret_of (bool_of H.out.symm), hx0⟩
  have h2' : ¬ (12 : Int) < (f.bl.length : Int) := by omega
  by_cases h3 : 6 < f.ct.length
  · have h3' : (6 : Int) < (f.ct.length : Int) := by omega
    have H : Hid (R = true) := by unfold Hid; rw [← HR.out, HG.out, decide_eq_true h3]; simp
    clear h1 h2 h3
    go_enter Tryz.func14, Tryz.ntmps14
    go_wp2
    try rw [hW0]
    go_ret
    exact ⟨ret_of (bool_of H.out.symm), hx0⟩
  have h3' : ¬ (6 : Int) < (f.ct.length : Int) := by omega
  have HG2 : Hid (R = f.ct.any greatC) := by unfold Hid; rw [← HR.out, HG.out, decide_eq_false h1, decide_eq_false h2, decide_eq_false h3]; simp
  clear h1 h2 h3
  go_enter Tryz.func14, Tryz.ntmps14
  go_wp2
  try rw [hW0]
  clear hW0 q2 q3 q4
  go_loopw [25] (fun i wr => ∃ k : Nat, k ≤ f.ct.length ∧ i = .int .i64 (k : Int) ∧ Ext W0 wr ∧ Hid ((f.ct.take k).any greatC = false)) (fun i _ => f.ct.length - (intOf i).toNat)
  case atStart => exact ⟨0, Nat.zero_le _, rfl, Ext.refl _, rfl⟩
  case round =>
    obtain ⟨k, hk, rfl, hx, HQ⟩ := hrel
    by_cases hlt : k < f.ct.length
    · have hlt' : (k : Int) < (f.ct.length : Int) := by omega
      obtain ⟨x, hxk⟩ := get_of_lt f.ct k hlt
      obtain ⟨b, off, A5, c5, A6, c6, e1, g0, g1, -⟩ := (hC.ext (hx0.trans hx)).at_ hxk
      subst e1
      have HX := hid hxk
      clear hxk
      have HB : Hid (greatC x = true → R = true) := fun h => by rw [HG2.out, List.any_eq_true.2 ⟨x, mem_of_get HX.out, h⟩]
      by_cases ha : 12 < x.st.length
      · have ha' : (12 : Int) < (x.st.length : Int) := by omega
        have H : Hid (R = true) := HB.out (by simp [greatC, ha])
        clear HQ HX
        go_wp2
        go_ret
        exact ⟨ret_of (bool_of H.out.symm), (hx0.trans hx).alloc _⟩
      have ha' : ¬ (12 : Int) < (x.st.length : Int) := by omega
      by_cases hb : 12 < x.rp.length
      · have hb' : (12 : Int) < (x.rp.length : Int) := by omega
        have H : Hid (R = true) := HB.out (by simp [greatC, hb])
        clear HQ HX
        go_wp2
        go_ret
        exact ⟨ret_of (bool_of H.out.symm), (hx0.trans hx).alloc _⟩
      have hb' : ¬ (12 : Int) < (x.rp.length : Int) := by omega
      have HQ2 : Hid ((f.ct.take (k + 1)).any greatC = false) := by unfold Hid; rw [take_next HX.out, List.any_append, HQ.out]; simp [greatC]; omega
      clear HQ HX HB
      go_wp2
      go_roundw
      case rel => exact ⟨k + 1, by omega, by go_num, hx.alloc _, HQ2⟩
      case measure => simp [intOf]; omega
    · have hlt' : ¬ (k : Int) < (f.ct.length : Int) := by omega
      have H : Hid (R = false) := by
        unfold Hid
        have h := HQ.out
        rw [List.take_of_length_le (by omega)] at h
        rw [HG2.out, h]
      clear HQ
      go_wp2
      go_ret
      exact ⟨ret_of (bool_of H.out.symm), hx0.trans hx⟩
end Go.Proofs.YtpbpcplboikpcaaGreat

namespace Go.Proofs.YtpbpcplboikpcaaGreat
open Go Go.RowKit
set_option linter.unusedVariables false
set_option linter.unusedSimpArgs false

set_option maxRecDepth 100000 in
set_option maxHeartbeats 4000000 in
theorem same_yes (v v' : Value) (f : Fg) (w : World) (hc : FgR w v f) (hd : FgR w v' f) (hs : f.sized) :
    Calls Tryz.prog 25 #[v, v'] w fun e w' => e = .returned (.bool true) ∧ Ext w w' := by
  obtain ⟨a1, ak1, a2, ak2, a3, ak3, rfl, hT, hB, hC, -⟩ := hc
  obtain ⟨b1, bk1, b2, bk2, b3, bk3, rfl, hT', hB', hC', -⟩ := hd
  obtain ⟨z1, z2, z3, z4⟩ := hs
  have Z4 := hid z4
  clear z4
  obtain ⟨W1, hW1⟩ : ∃ W1, (w.alloc (.cells #[.int .i64 f.pl, .int .i64 f.mi, .slice a1 f.tr.length ak1, .slice a2 f.bl.length ak2, .slice a3 f.ct.length ak3] 28)).alloc (.cells #[.int .i64 f.pl, .int .i64 f.mi, .slice b1 f.tr.length bk1, .slice b2 f.bl.length bk2, .slice b3 f.ct.length bk3] 28) = W1 := ⟨_, rfl⟩
  have hx1 : Ext w W1 := by rw [← hW1]; exact (Ext.alloc (Ext.refl w) _).alloc _
  have FX : Hid (∀ w', Ext W1 w' → (w'.cell? ⟨w.heap.size, 0, none⟩ = some (.int .i64 f.pl) ∧ w'.cell? ⟨w.heap.size, 1, none⟩ = some (.int .i64 f.mi) ∧ w'.cell? ⟨w.heap.size, 2, none⟩ = some (.slice a1 f.tr.length ak1) ∧ w'.cell? ⟨w.heap.size, 3, none⟩ = some (.slice a2 f.bl.length ak2) ∧ w'.cell? ⟨w.heap.size, 4, none⟩ = some (.slice a3 f.ct.length ak3)) ∧
      w'.cell? ⟨w.heap.size + 1, 0, none⟩ = some (.int .i64 f.pl) ∧ w'.cell? ⟨w.heap.size + 1, 1, none⟩ = some (.int .i64 f.mi) ∧ w'.cell? ⟨w.heap.size + 1, 2, none⟩ = some (.slice b1 f.tr.length bk1) ∧ w'.cell? ⟨w.heap.size + 1, 3, none⟩ = some (.slice b2 f.bl.length bk2) ∧ w'.cell? ⟨w.heap.size + 1, 4, none⟩ = some (.slice b3 f.ct.length bk3)) := fun w' h =>
    ⟨⟨h.cell (by rw [← hW1]; simp [go_sem]), h.cell (by rw [← hW1]; simp [go_sem]), h.cell (by rw [← hW1]; simp [go_sem]), h.cell (by rw [← hW1]; simp [go_sem]), h.cell (by rw [← hW1]; simp [go_sem])⟩, h.cell (by rw [← hW1]; simp [go_sem]), h.cell (by rw [← hW1]; simp [go_sem]), h.cell (by rw [← hW1]; simp [go_sem]), h.cell (by rw [← hW1]; simp [go_sem]), h.cell (by rw [← hW1]; simp [go_sem])⟩
  obtain ⟨⟨q0, q1, q2, q3, q4⟩, p0, p1, p2, p3, p4⟩ := FX.out W1 (Ext.refl _)
  have hn0 : (f.pl != f.pl) = false := by simp
  have hn1 : (f.mi != f.mi) = false := by simp
  have hn2 : ((f.ct.length : Int) != (f.ct.length : Int)) = false := by simp
  unfold fval
  go_enter Tryz.func25, Tryz.ntmps25
  go_wp2_with fail
  try rw [hW1]
  clear hW1 q0 q1 q2 q3 q4 p0 p1 p2 p3 p4
  refine (eq_prs a1 b1 ak1 bk1 f.tr W1 (Rows.ext hT hx1) (Rows.ext hT' hx1) (by omega)).mono ?_
  rintro e w1 ⟨rfl, h1⟩
  obtain ⟨⟨q0, q1, q2, q3, q4⟩, p0, p1, p2, p3, p4⟩ := FX.out w1 h1
  go_wp2_with fail
  clear q0 q1 q2 q3 q4 p0 p1 p2 p3 p4
  refine (eq_bls a2 b2 ak2 bk2 f.bl w1 (Rows.ext hB (hx1.trans h1)) (Rows.ext hB' (hx1.trans h1)) (by omega)).mono ?_
  rintro e w2 ⟨rfl, h2⟩
  have h2 := h1.trans h2
  obtain ⟨⟨q0, q1, q2, q3, q4⟩, p0, p1, p2, p3, p4⟩ := FX.out w2 h2
  go_wp2
  clear q0 q1 q2 q3 q4 p0 p1 p2 p3 p4
  go_loopw [53] (fun i wr => ∃ k : Nat, k ≤ f.ct.length ∧ i = .int .i64 (k : Int) ∧ Ext W1 wr) (fun i _ => f.ct.length - (intOf i).toNat)
  case atStart => exact ⟨0, Nat.zero_le _, rfl, h2⟩
  case round =>
    obtain ⟨k, hk, rfl, hx⟩ := hrel
    by_cases hlt : k < f.ct.length
    · have hlt' : (k : Int) < (f.ct.length : Int) := by omega
      obtain ⟨x, hxk⟩ := get_of_lt f.ct k hlt
      obtain ⟨c1, o1, A5, k5, A6, k6, e1, g0, g1, hI1, hR1, -, -⟩ := (hC.ext (hx1.trans hx)).at_ hxk
      obtain ⟨c2, o2, A7, k7, A8, k8, e2, g2, g3, hI2, hR2, -, -⟩ := (hC'.ext (hx1.trans hx)).at_ hxk
      have hzx := Z4.out x (mem_of_get hxk)
      clear hxk
      subst e1
      subst e2
      obtain ⟨-, p0, p1, p2, p3, p4⟩ := FX.out wr hx
      obtain ⟨Wx, hWx⟩ : ∃ Wx, wr.alloc (.cells #[.slice A5 x.st.length k5, .slice A6 x.rp.length k6] 62) = Wx := ⟨_, rfl⟩
      have hxx : Ext wr Wx := by rw [← hWx]; exact Ext.alloc (Ext.refl _) _
      obtain ⟨Bx, hBx⟩ : ∃ Bx, wr.heap.size = Bx := ⟨_, rfl⟩
      have FQ : Hid (∀ w', Ext Wx w' → w'.cell? ⟨Bx, 0, none⟩ = some (.slice A5 x.st.length k5) ∧ w'.cell? ⟨Bx, 1, none⟩ = some (.slice A6 x.rp.length k6) ∧ w'.cell? ⟨w.heap.size + 1, 4, none⟩ = some (.slice (some ⟨c2, o2, none⟩) f.ct.length bk3) ∧ w'.cell? ⟨c2, o2 + k * 2, none⟩ = some (.slice A7 x.st.length k7) ∧ w'.cell? ⟨c2, o2 + k * 2 + 1, none⟩ = some (.slice A8 x.rp.length k8)) := fun w' h =>
        ⟨h.cell (by rw [← hBx, ← hWx]; simp [go_sem]), h.cell (by rw [← hBx, ← hWx]; simp [go_sem]), h.cell (hxx.cell p4), h.cell (hxx.cell g2), h.cell (hxx.cell g3)⟩
      have HI := hid (show Ints Wx A5 x.st ∧ Ints Wx A7 x.st ∧ Reps Wx A6 x.rp ∧ Reps Wx A8 x.rp from ⟨hI1.ext hxx, hI2.ext hxx, Rows.ext hR1 hxx, Rows.ext hR2 hxx⟩)
      have hxn := hx.trans hxx
      clear p0 p1 p2 p3 p4 hI1 hI2 hR1 hR2
      go_wp2
      try rw [hWx]
      try rw [hBx]
      clear hWx hBx g0 g1 g2 g3
      refine wp_region_shut Ext (fun w' => Ext Wx w') (fun | 8 => some (fun v _ => v = .bool true) | 19 => some (fun v _ => v = .bool true) | _ => none) (by kernel_rfl) (by kernel_rfl) (fun _ _ h k => h.trans k) ?hT (Ext.drew (Ext.refl Wx)) ?_
      case hT =>
        intro i R hR
        match i, hR with
        | 8, hR => cases hR; exact fun _ _ _ h _ => h
        | 19, hR => cases hR; exact fun _ _ _ h _ => h
      refine wM_val ?ua0 rfl rfl Ext.refl (fun w' hD => ?ha0) (fun pha0 => ?na0)
      case ha0 =>
        obtain ⟨d0, d1, d2, d3, d4⟩ := FQ.out _ hD.1
        go_simp; rfl
      simp only [Act.put, List.setIfInBounds_toArray, List.set_cons_succ, List.set_cons_zero, Nat.reduceAdd]
      refine wM_val ?ua1 rfl rfl Ext.refl (fun w' hD => ?ha1) (fun pha1 => ?na1)
      case ha1 =>
        obtain ⟨d0, d1, d2, d3, d4⟩ := FQ.out _ hD.1
        go_simp; rfl
      simp only [Act.put, List.setIfInBounds_toArray, List.set_cons_succ, List.set_cons_zero, Nat.reduceAdd]
      refine wM_val ?ua2 rfl rfl Ext.refl (fun w' hD => ?ha2) (fun pha2 => ?na2)
      case ha2 =>
        obtain ⟨d0, d1, d2, d3, d4⟩ := FQ.out _ hD.1
        go_simp; rfl
      simp only [Act.put, List.setIfInBounds_toArray, List.set_cons_succ, List.set_cons_zero, Nat.reduceAdd]
      refine wM_val ?ua3 rfl rfl Ext.refl (fun w' hD => ?ha3) (fun pha3 => ?na3)
      case ha3 =>
        obtain ⟨d0, d1, d2, d3, d4⟩ := FQ.out _ hD.1
        go_simp; rfl
      simp only [Act.put, List.setIfInBounds_toArray, List.set_cons_succ, List.set_cons_zero, Nat.reduceAdd]
      refine wM_val ?ua4 rfl rfl Ext.refl (fun w' hD => ?ha4) (fun pha4 => ?na4)
      case ha4 =>
        obtain ⟨d0, d1, d2, d3, d4⟩ := FQ.out _ hD.1
        go_simp; rfl
      simp only [Act.put, List.setIfInBounds_toArray, List.set_cons_succ, List.set_cons_zero, Nat.reduceAdd]
      refine wM_val ?ua5 rfl rfl Ext.refl (fun w' hD => ?ha5) (fun pha5 => ?na5)
      case ha5 =>
        obtain ⟨d0, d1, d2, d3, d4⟩ := FQ.out _ hD.1
        go_simp; rfl
      simp only [Act.put, List.setIfInBounds_toArray, List.set_cons_succ, List.set_cons_zero, Nat.reduceAdd]
      refine wM_val ?ua6 rfl rfl Ext.refl (fun w' hD => ?ha6) (fun pha6 => ?na6)
      case ha6 =>
        obtain ⟨d0, d1, d2, d3, d4⟩ := FQ.out _ hD.1
        go_simp; rfl
      simp only [Act.put, List.setIfInBounds_toArray, List.set_cons_succ, List.set_cons_zero, Nat.reduceAdd]
      refine wM_val ?ua7 rfl rfl Ext.refl (fun w' hD => ?ha7) (fun pha7 => ?na7)
      case ha7 =>
        obtain ⟨d0, d1, d2, d3, d4⟩ := FQ.out _ hD.1
        go_simp; rfl
      simp only [Act.put, List.setIfInBounds_toArray, List.set_cons_succ, List.set_cons_zero, Nat.reduceAdd]
      refine wM_op _ rfl rfl (opens_call ?fa8 ?ga8 (fun w' hD => ?ha8) (fun w' hD => ?ca8)) (fun v8 hv8 => ?na8)
      case ha8 => go_simp; constructor <;> rfl
      case ca8 =>
        refine (eq_int A5 A7 k5 k7 x.st x.st w' (HI.out.1.ext hD.1) (HI.out.2.1.ext hD.1) (by omega) (by omega)).mono ?_
        rintro e w2 ⟨rfl, hb⟩
        exact ⟨_, rfl, hb, by simp⟩
      obtain ⟨_, -, -, rfl⟩ := hv8
      simp only [Act.put, List.setIfInBounds_toArray, List.set_cons_succ, List.set_cons_zero, Nat.reduceAdd]
      refine wM_val ?ua9 rfl rfl Ext.refl (fun w' hD => ?ha9) (fun pha9 => ?na9)
      case ha9 =>
        obtain ⟨d0, d1, d2, d3, d4⟩ := FQ.out _ hD.1
        go_simp; rfl
      simp only [Act.put, List.setIfInBounds_toArray, List.set_cons_succ, List.set_cons_zero, Nat.reduceAdd]
      refine wM_val ?ua10 rfl rfl Ext.refl (fun w' hD => ?ha10) (fun pha10 => ?na10)
      case ha10 =>
        obtain ⟨d0, d1, d2, d3, d4⟩ := FQ.out _ hD.1
        go_simp; rfl
      simp only [Act.put, List.setIfInBounds_toArray, List.set_cons_succ, List.set_cons_zero, Nat.reduceAdd]
      refine wM_val ?ua11 rfl rfl Ext.refl (fun w' hD => ?ha11) (fun pha11 => ?na11)
      case ha11 =>
        obtain ⟨d0, d1, d2, d3, d4⟩ := FQ.out _ hD.1
        go_simp; rfl
      simp only [Act.put, List.setIfInBounds_toArray, List.set_cons_succ, List.set_cons_zero, Nat.reduceAdd]
      refine wM_val ?ua12 rfl rfl Ext.refl (fun w' hD => ?ha12) (fun pha12 => ?na12)
      case ha12 =>
        obtain ⟨d0, d1, d2, d3, d4⟩ := FQ.out _ hD.1
        go_simp; rfl
      simp only [Act.put, List.setIfInBounds_toArray, List.set_cons_succ, List.set_cons_zero, Nat.reduceAdd]
      refine wM_val ?ua13 rfl rfl Ext.refl (fun w' hD => ?ha13) (fun pha13 => ?na13)
      case ha13 =>
        obtain ⟨d0, d1, d2, d3, d4⟩ := FQ.out _ hD.1
        go_simp; rfl
      simp only [Act.put, List.setIfInBounds_toArray, List.set_cons_succ, List.set_cons_zero, Nat.reduceAdd]
      refine wM_val ?ua14 rfl rfl Ext.refl (fun w' hD => ?ha14) (fun pha14 => ?na14)
      case ha14 =>
        obtain ⟨d0, d1, d2, d3, d4⟩ := FQ.out _ hD.1
        go_simp; rfl
      simp only [Act.put, List.setIfInBounds_toArray, List.set_cons_succ, List.set_cons_zero, Nat.reduceAdd]
      refine wM_val ?ua15 rfl rfl Ext.refl (fun w' hD => ?ha15) (fun pha15 => ?na15)
      case ha15 =>
        obtain ⟨d0, d1, d2, d3, d4⟩ := FQ.out _ hD.1
        go_simp; rfl
      simp only [Act.put, List.setIfInBounds_toArray, List.set_cons_succ, List.set_cons_zero, Nat.reduceAdd]
      refine wM_val ?ua16 rfl rfl Ext.refl (fun w' hD => ?ha16) (fun pha16 => ?na16)
      case ha16 =>
        obtain ⟨d0, d1, d2, d3, d4⟩ := FQ.out _ hD.1
        go_simp; rfl
      simp only [Act.put, List.setIfInBounds_toArray, List.set_cons_succ, List.set_cons_zero, Nat.reduceAdd]
      refine wM_val ?ua17 rfl rfl Ext.refl (fun w' hD => ?ha17) (fun pha17 => ?na17)
      case ha17 =>
        obtain ⟨d0, d1, d2, d3, d4⟩ := FQ.out _ hD.1
        go_simp; rfl
      simp only [Act.put, List.setIfInBounds_toArray, List.set_cons_succ, List.set_cons_zero, Nat.reduceAdd]
      refine wM_val ?ua18 rfl rfl Ext.refl (fun w' hD => ?ha18) (fun pha18 => ?na18)
      case ha18 =>
        obtain ⟨d0, d1, d2, d3, d4⟩ := FQ.out _ hD.1
        go_simp; rfl
      simp only [Act.put, List.setIfInBounds_toArray, List.set_cons_succ, List.set_cons_zero, Nat.reduceAdd]
      refine wM_op _ rfl rfl (opens_call ?fa19 ?ga19 (fun w' hD => ?ha19) (fun w' hD => ?ca19)) (fun v19 hv19 => ?na19)
      case ha19 => go_simp; constructor <;> rfl
      case ca19 =>
        refine (eq_rps A6 A8 k6 k8 x.rp w' (Rows.ext HI.out.2.2.1 hD.1) (Rows.ext HI.out.2.2.2 hD.1) (by omega)).mono ?_
        rintro e w2 ⟨rfl, hb⟩
        exact ⟨_, rfl, hb, rfl⟩
      obtain ⟨_, -, -, rfl⟩ := hv19
      simp only [Act.put, List.setIfInBounds_toArray, List.set_cons_succ, List.set_cons_zero, Nat.reduceAdd]
      refine wM_val ?ua20 rfl rfl Ext.refl (fun w' hD => ?ha20) (fun pha20 => ?na20)
      case ha20 =>
        obtain ⟨d0, d1, d2, d3, d4⟩ := FQ.out _ hD.1
        go_simp; rfl
      simp only [Act.put, List.setIfInBounds_toArray, List.set_cons_succ, List.set_cons_zero, Nat.reduceAdd]
      refine wM_val ?ua21 rfl rfl Ext.refl (fun w' hD => ?ha21) (fun pha21 => ?na21)
      case ha21 =>
        obtain ⟨d0, d1, d2, d3, d4⟩ := FQ.out _ hD.1
        go_simp; rfl
      simp only [Act.put, List.setIfInBounds_toArray, List.set_cons_succ, List.set_cons_zero, Nat.reduceAdd]
      refine wM_nil ?_
      intro w9 hw9 hF9
      go_wp2
      go_roundw
      case rel => exact ⟨k + 1, by omega, by go_num, hxn.trans hw9⟩
      case measure => simp [intOf]; omega
    · have hlt' : ¬ (k : Int) < (f.ct.length : Int) := by omega
      go_wp2
      go_ret
      exact ⟨rfl, hx1.trans hx⟩
end Go.Proofs.YtpbpcplboikpcaaGreat

namespace Go.Proofs.YtpbpcplboikpcaaGreat
open Go Go.RowKit
set_option linter.unusedVariables false
set_option linter.unusedSimpArgs false

def besP (a b : Int) (t : Int × Int) : Bool := (t.1 == a && t.2 == b) || (t.1 == b && t.2 == a)
theorem beside_no {f : Fg} {a b : Int} (h : (a == b) = false) : besideB f a b = f.tr.any (besP a b) := by unfold besideB; rw [h]; rfl
set_option maxRecDepth 100000 in
set_option maxHeartbeats 2000000 in
theorem refbeside_any (v : Value) (f : Fg) (d : List (List Int)) (a b : Int) (w : World) (hf : RgR w v f d) (hs : f.sized) :
    Calls Tryz.prog 114 #[v, .int .i64 a, .int .i64 b] w fun e w' => e = .returned (.bool (besideB f a b)) ∧ Ext w w' := by
  obtain ⟨s, A4, c4, rfl, hr, hd⟩ := hf
  have hz := hs.tr
  obtain ⟨N, hN⟩ : ∃ N, besideB f a b = N := ⟨_, rfl⟩
  have HN := hid hN
  rw [hN]
  clear hN
  obtain ⟨W0, hW0⟩ : ∃ W0, w.alloc (.cells #[.int .i64 f.pl, .int .i64 f.mi, .slice s.a1 f.tr.length s.c1, .slice s.a2 f.bl.length s.c2, .slice s.a3 f.ct.length s.c3, .slice A4 d.length c4] 37) = W0 := ⟨_, rfl⟩
  have hx0 : Ext w W0 := by rw [← hW0]; exact Ext.alloc (Ext.refl w) _
  have FX : Hid (∀ w', Ext W0 w' → w'.cell? ⟨w.heap.size, 2, none⟩ = some (.slice s.a1 f.tr.length s.c1)) := fun w' h => h.cell (by rw [← hW0]; simp [go_sem])
  unfold rval
  cases hab : (a == b)
  case true =>
    have H : Hid (N = true) := by unfold Hid; rw [← HN.out]; unfold besideB; rw [hab]; rfl
    go_enter Tryz.func114, Tryz.ntmps114
    go_wp2
    try rw [hW0]
    go_ret
    exact ⟨ret_of (bool_of H.out.symm), hx0⟩
  have HB := hid (beside_no (f := f) hab)
  go_enter Tryz.func114, Tryz.ntmps114
  go_wp2
  try rw [hW0]
  clear hW0
  go_loopw [7] (fun i wr => ∃ k : Nat, k ≤ f.tr.length ∧ i = .int .i64 (k : Int) ∧ Ext W0 wr ∧ Hid ((f.tr.take k).any (besP a b) = false)) (fun i _ => f.tr.length - (intOf i).toNat)
  case atStart => exact ⟨0, Nat.zero_le _, rfl, Ext.refl _, rfl⟩
  case round =>
    obtain ⟨k, hk, rfl, hx, HQ⟩ := hrel
    have q2 := FX.out wr hx
    by_cases hlt : k < f.tr.length
    · have hlt' : (k : Int) < (f.tr.length : Int) := by omega
      obtain ⟨x, hxk⟩ := get_of_lt f.tr k hlt
      obtain ⟨b1, o1, e1, g0, g1⟩ := Prs.at_ (Rows.ext hr.tr (hx0.trans hx)) hxk
      rw [e1] at q2
      clear e1
      have HX := hid hxk
      have H5 : Hid (besP a b x = true → N = true) := fun h => by rw [← HN.out, HB.out]; exact List.any_eq_true.2 ⟨x, mem_of_get HX.out, h⟩
      have H6 : Hid (besP a b x = false → (f.tr.take (k + 1)).any (besP a b) = false) := fun h => by rw [take_next HX.out, List.any_append, HQ.out]; simp [h]
      clear hxk HQ HX
      cases c1 : (x.1 == a) <;> cases c2 : (x.2 == b) <;> cases c3 : (x.1 == b) <;> cases c4 : (x.2 == a)
      all_goals
        go_wp2
        first
          | (go_roundw
             case rel => exact ⟨k + 1, by omega, by go_num, hx.alloc _, H6.out (by unfold besP; rw [c1, c2, c3, c4]; rfl)⟩
             case measure => simp [intOf]; omega)
          | (have HN2 : Hid (N = true) := H5.out (by unfold besP; rw [c1, c2, c3, c4]; rfl)
             go_ret
             exact ⟨ret_of (bool_of HN2.out.symm), hx0.trans (hx.alloc _)⟩)
    · have hlt' : ¬ (k : Int) < (f.tr.length : Int) := by omega
      have H : Hid (N = false) := by
        unfold Hid
        have h := HQ.out
        rw [List.take_of_length_le (by omega)] at h
        rw [← HN.out, HB.out, h]
      clear HQ
      go_wp2
      go_ret
      exact ⟨ret_of (bool_of H.out.symm), hx0.trans hx⟩

/-- What the first k places lead to. -/
def partF (f : Fg) (now : Nat → Bool) (k x : Nat) : Bool := (List.range k).any fun y => now y && besideB f y x
theorem partF_next (f : Fg) (now : Nat → Bool) (k x : Nat) : partF f now (k + 1) x = (partF f now k x || now k && besideB f k x) := by
  unfold partF
  rw [List.range_succ, List.any_append]
  simp
theorem mid_set (f : Fg) (now : Nat → Bool) (P k m : Nat) (x : Bool) (hx : x = partF f now (k + 1) m) : (rl P fun y => if y < m then partF f now (k + 1) y else partF f now k y).set m x = rl P fun y => if y < m + 1 then partF f now (k + 1) y else partF f now k y := by
  rw [← rl_upd]
  congr 1
  funext y
  unfold upd1
  by_cases e : y = m
  · subst e; rw [if_pos rfl, if_pos (by omega), hx]
  · rw [if_neg e]
    dsimp only
    by_cases h : y < m
    · rw [if_pos h, if_pos (by omega)]
    · rw [if_neg h, if_neg (by omega)]
theorem rl_congr {α : Type} {n : Nat} {f g : Nat → α} (h : ∀ x, x < n → f x = g x) : rl n f = rl n g := List.map_congr_left fun x hx => h x (List.mem_range.1 hx)
end Go.Proofs.YtpbpcplboikpcaaGreat

namespace Go.Proofs.YtpbpcplboikpcaaGreat
open Go Go.RowKit
set_option linter.unusedVariables false
set_option linter.unusedSimpArgs false

set_option maxRecDepth 100000 in
set_option maxHeartbeats 4000000 in
theorem reffar_any (v : Value) (f : Fg) (d : List (List Int)) (a b : Nat) (w : World) (hf : RgR w v f d) (hs : f.sized) (hok : FogOK f) (ha : a < f.pl.toNat) (hb : b < f.pl.toNat) :
    Calls Tryz.prog 20 #[v, .int .i64 (a : Int), .int .i64 (b : Int)] w fun e w' => e = .returned (.int .i64 (farR f a b)) ∧ Ext w w' := by
  have hf' := hf
  obtain ⟨s, A4, c4, rfl, hr, hd⟩ := hf
  have HF := hid hf'
  clear hf'
  have HS0 := hid hs
  have HOK := hid hok
  obtain ⟨P, hP⟩ : ∃ P : Nat, f.pl = P := ⟨f.pl.toNat, by have := hok.pl; omega⟩
  have hpl := hok.pl
  have hP8 : P ≤ 8 := by omega
  have HP : Hid (f.pl.toNat = P) := by unfold Hid; omega
  rw [HP.out] at ha hb
  have haP : (a : Int) < (P : Int) := by omega
  have hbP : (b : Int) < (P : Int) := by omega
  obtain ⟨N, hN⟩ : ∃ N, farR f a b = N := ⟨_, rfl⟩
  have HN := hid hN
  rw [hN]
  clear hN
  have HFO : Hid (∀ n : Nat, n ≤ 8 → nowF f P a n b = true → (∀ m, m < n → nowF f P a m b = false) → N = n) := fun n hn h1 h2 => by
    have ha' : a < f.pl.toNat := by rw [HP.out]; exact ha
    have hb' : b < f.pl.toNat := by rw [HP.out]; exact hb
    rw [← HN.out]
    exact farR_found HOK.out ha' hb' hn (by rw [HP.out]; exact h1) (by rw [HP.out]; exact h2)
  have HNO : Hid (∀ n : Nat, P < n → (∀ m, m < n → nowF f P a m b = false) → N = -1) := fun n hn h2 => by
    have ha' : a < f.pl.toNat := by rw [HP.out]; exact ha
    have hb' : b < f.pl.toNat := by rw [HP.out]; exact hb
    rw [← HN.out]
    exact farR_none (n := n) HOK.out ha' hb' (by have := HP.out; omega) (by rw [HP.out]; exact h2)
  have hmk := fun w => run_make_row' (P := Tryz.prog) 113 4 (.bool false) 1 Tryz.underlying113 infoBool rfl .i64 .i64 P (by omega) (by omega) w
  obtain ⟨W0, hW0⟩ : ∃ W0, w.alloc (.cells #[.int .i64 f.pl, .int .i64 f.mi, .slice s.a1 f.tr.length s.c1, .slice s.a2 f.bl.length s.c2, .slice s.a3 f.ct.length s.c3, .slice A4 d.length c4] 37) = W0 := ⟨_, rfl⟩
  have hx0 : Ext w W0 := by rw [← hW0]; exact Ext.alloc (Ext.refl w) _
  have hz0 : W0.heap.size = w.heap.size + 1 := by rw [← hW0]; simp
  have FX : Hid (∀ w', Ext W0 w' → w'.cell? ⟨w.heap.size, 0, none⟩ = some (.int .i64 f.pl) ∧ w'.cell? ⟨w.heap.size, 1, none⟩ = some (.int .i64 f.mi) ∧ w'.cell? ⟨w.heap.size, 2, none⟩ = some (.slice s.a1 f.tr.length s.c1) ∧ w'.cell? ⟨w.heap.size, 3, none⟩ = some (.slice s.a2 f.bl.length s.c2) ∧ w'.cell? ⟨w.heap.size, 4, none⟩ = some (.slice s.a3 f.ct.length s.c3) ∧ w'.cell? ⟨w.heap.size, 5, none⟩ = some (.slice A4 d.length c4)) := fun w' h =>
    ⟨h.cell (by rw [← hW0]; simp [go_sem]), h.cell (by rw [← hW0]; simp [go_sem]), h.cell (by rw [← hW0]; simp [go_sem]), h.cell (by rw [← hW0]; simp [go_sem]), h.cell (by rw [← hW0]; simp [go_sem]), h.cell (by rw [← hW0]; simp [go_sem])⟩
  rw [hP] at FX
  obtain ⟨q0, q1, q2, q3, q4, q5⟩ := FX.out W0 (Ext.refl _)
  have HV : Hid (rval s f (.slice A4 d.length c4) = .agg #[.int .i64 (P : Int), .int .i64 f.mi, .slice s.a1 f.tr.length s.c1, .slice s.a2 f.bl.length s.c2, .slice s.a3 f.ct.length s.c3, .slice A4 d.length c4]) := by unfold Hid rval; rw [hP]
  rw [HV.out] at HF ⊢
  rw [hP] at hW0
  clear hP hpl
  go_enter Tryz.func20, Tryz.ntmps20
  obtain ⟨W2, hW2⟩ : ∃ W2, W0.alloc (.cells (madeCells #[.bool false] P) 4) = W2 := ⟨_, rfl⟩
  have hxW2 : Ext W0 W2 := by rw [← hW2]; exact Ext.alloc (Ext.refl _) _
  have hI0 : Brow W2 (w.heap.size + 1) (rl P fun _ => false) := by
    rw [← hz0, rl_const, ← hW2, made_brow]; exact World.alloc_heap_new _ _
  have hI1 := hI0.set a true
  have hcell := hI0.at_ (rl_get _ ha)
  have hfz := hI0.frozen a
  have hgw : W0.heap.size ≤ w.heap.size + 1 := by omega
  have hI1 : Hid (Brow (W2.setCell ⟨w.heap.size + 1, a, none⟩ (.bool true)) (w.heap.size + 1) (rl P (nowF f P a 0))) := by
    unfold Hid
    rw [← rl_upd] at hI1
    have e : upd1 (fun _ : Nat => false) a true = nowF f P a 0 := by
      funext x; unfold upd1 nowF
      by_cases e : x = a
      · subst e; simp
      · simp [e]
    rw [e] at hI1; exact hI1
  have hx3 := hid (hxW2.setCell hgw (p := ⟨w.heap.size + 1, a, none⟩) (.bool true))
  have hgz := hid hgw
  clear hI0 hxW2 hgw
  go_wp2
  try rw [hz0]
  clear hW0 hW2 hcell hfz hz0 q0 q1 q2 q3 q4 q5
  generalize hW3 : W2.setCell ⟨w.heap.size + 1, a, none⟩ (.bool true) = W3 at hI1 hx3 ⊢
  clear hW3
  go_loopw [7, 8] (fun i7 i8 wr => ∃ (n g : Nat), n ≤ P + 1 ∧ i8 = .int .i64 (n : Int) ∧ i7 = .slice (some ⟨g, 0, none⟩) P P ∧ W0.heap.size ≤ g ∧ Hid (Brow wr g (rl P (nowF f P a n))) ∧ Ext W0 wr ∧ Hid (∀ m, m < n → nowF f P a m b = false)) (fun _ i8 _ => P + 2 - (intOf i8).toNat)
  case atStart => exact ⟨0, w.heap.size + 1, by omega, rfl, rfl, hgz.out, hI1, hx3.out, fun m hm => by omega⟩
  case round =>
    obtain ⟨n, g, hn, rfl, rfl, hg, HB, hx, HQ⟩ := hrel
    obtain ⟨q0, q1, q2, q3, q4, q5⟩ := FX.out wr hx
    by_cases hlt : n ≤ P
    · have hlt' : (n : Int) ≤ (P : Int) := by omega
      have hcb := HB.out.at_ (rl_get _ hb)
      cases hq : nowF f P a n b
      case true =>
        rw [hq] at hcb
        have H : Hid (N = n) := HFO.out n (by omega) hq HQ.out
        go_wp2
        go_ret
        exact ⟨ret_of (int_of H.out.symm), hx0.trans hx⟩
      rw [hq] at hcb
      have HQ2 : Hid (∀ m, m < n + 1 → nowF f P a m b = false) := fun m hm => by
        by_cases e : m = n
        · subst e; exact hq
        · exact HQ.out m (by omega)
      obtain ⟨now, hnow⟩ : ∃ now, nowF f P a n = now := ⟨_, rfl⟩
      have HNW : Hid (∀ x, nowF f P a (n + 1) x = partF f now P x) := fun x => by rw [← hnow]; rfl
      rw [hnow] at HB
      clear hq HQ hnow
      obtain ⟨V, hV⟩ : ∃ V : World, V = wr := ⟨_, rfl⟩
      subst hV
      obtain ⟨V2, hV2⟩ : ∃ V2, V.alloc (.cells (madeCells #[.bool false] P) 4) = V2 := ⟨_, rfl⟩
      have hxV : Ext V V2 := by rw [← hV2]; exact Ext.alloc (Ext.refl _) _
      have HB2 : Hid (Brow V2 V.heap.size (rl P (partF f now 0))) := by
        unfold Hid
        rw [show partF f now 0 = fun _ => false from rfl, rl_const, ← hV2, made_brow]; exact World.alloc_heap_new _ _
      have hgV : g < V.heap.size := HB.out.lt
      have HB := hid (HB.out.ext hxV)
      have hx2 := hx.trans hxV
      have hgW : W0.heap.size ≤ V.heap.size := hx.size
      clear hxV hx
      go_wp2
      clear hV2 hcb q0 q1 q2 q3 q4 q5
      go_loopw [10] (fun i10 wr => ∃ k : Nat, k ≤ P ∧ i10 = .int .i64 (k : Int) ∧ Hid (Brow wr g (rl P now)) ∧ Hid (Brow wr V.heap.size (rl P (partF f now k))) ∧ Ext W0 wr) (fun i _ => P - (intOf i).toNat)
      case atStart => exact ⟨0, Nat.zero_le _, rfl, HB, HB2, hx2⟩
      case round =>
        obtain ⟨k, hk, rfl, HB, HB2, hx⟩ := hrel
        by_cases hlk : k < P
        · have hlk' : (k : Int) < (P : Int) := by omega
          obtain ⟨U, hU⟩ : ∃ V : World, V = wr := ⟨_, rfl⟩
          subst hU
          go_wp2
          go_loopw [11] (fun i11 wr => ∃ m : Nat, m ≤ P ∧ i11 = .int .i64 (m : Int) ∧ Hid (Brow wr g (rl P now)) ∧ Hid (Brow wr V.heap.size (rl P fun y => if y < m then partF f now (k + 1) y else partF f now k y)) ∧ Ext W0 wr) (fun i _ => P - (intOf i).toNat)
          case atStart => exact ⟨0, Nat.zero_le _, rfl, HB, (by unfold Hid; rw [rl_congr (g := partF f now k) (fun x _ => by rw [if_neg (by omega)])]; exact HB2.out), hx⟩
          case round =>
            obtain ⟨m, hm, rfl, HB, HB2, hx⟩ := hrel
            by_cases hlm : m < P
            · have hlm' : (m : Int) < (P : Int) := by omega
              have hcn := HB2.out.at_ (rl_get _ hlm)
              rw [if_neg (Nat.lt_irrefl m)] at hcn
              have hck := HB.out.at_ (rl_get _ hlk)
              have hfz := HB2.out.frozen m
              have HS : Hid (∀ (W : World) (x : Bool), Brow W V.heap.size (rl P fun y => if y < m then partF f now (k + 1) y else partF f now k y) → x = partF f now (k + 1) m → Brow (W.setCell ⟨V.heap.size, m, none⟩ (.bool x)) V.heap.size (rl P fun y => if y < m + 1 then partF f now (k + 1) y else partF f now k y)) := fun W x h e => by
                have h2 := h.set m x
                rw [mid_set f now P k m x e] at h2
                exact h2
              have HN2 := hid (partF_next f now k m)
              have HG := hid (show g ≠ V.heap.size by omega)
              cases c1 : partF f now k m
              case true =>
                rw [c1] at hcn
                have HX : Hid (true = partF f now (k + 1) m) := by unfold Hid; rw [HN2.out, c1]; rfl
                clear c1
                go_wp2
                go_roundw
                case rel => exact ⟨m + 1, by omega, by go_num, HB.out.setne _ _ HG.out, HS.out _ _ HB2.out HX.out, hx.setCell hgW _⟩
                case measure => simp [intOf]; omega
              rw [c1] at hcn
              cases c2 : now k
              case false =>
                rw [c2] at hck
                have HX : Hid (false = partF f now (k + 1) m) := by unfold Hid; rw [HN2.out, c1, c2]; rfl
                clear c1 c2
                go_wp2
                go_roundw
                case rel => exact ⟨m + 1, by omega, by go_num, HB.out.setne _ _ HG.out, HS.out _ _ HB2.out HX.out, hx.setCell hgW _⟩
                case measure => simp [intOf]; omega
              rw [c2] at hck
              have HX : Hid (besideB f k m = partF f now (k + 1) m) := by unfold Hid; rw [HN2.out, c1, c2]; simp
              clear c1 c2
              obtain ⟨q0, q1, q2, q3, q4, q5⟩ := FX.out wr hx
              go_wp2_with fail
              clear q0 q1 q2 q3 q4 q5 hcn hck hfz
              refine (refbeside_any _ f d k m wr (HF.out.ext (hx0.trans hx)) HS0.out).mono ?_
              rintro e w2 ⟨rfl, hb2⟩
              have hcn := (HB2.out.ext hb2).at_ (rl_get _ hlm)
              have hfz := (HB2.out.ext hb2).frozen m
              generalize besideB f (k : Int) (m : Int) = bb at HX ⊢
              go_wp2
              go_roundw
              case rel => exact ⟨m + 1, by omega, by go_num, (HB.out.ext hb2).setne _ _ HG.out, HS.out _ _ (HB2.out.ext hb2) HX.out, (hx.trans hb2).setCell hgW _⟩
              case measure => simp [intOf]; omega
            · have hlm' : ¬ (m : Int) < (P : Int) := by omega
              have HB3 : Hid (Brow wr V.heap.size (rl P (partF f now (k + 1)))) := by
                have h := HB2.out
                rw [rl_congr (g := partF f now (k + 1)) (fun x hx => by rw [if_pos (by omega)])] at h
                exact h
              have hlen : True := trivial
              clear HB2
              go_wp2
              go_roundw
              case rel => exact ⟨k + 1, by omega, by go_num, HB, HB3, hx⟩
              case measure => simp [intOf]; omega
        · have hlk' : ¬ (k : Int) < (P : Int) := by omega
          have HB3 : Hid (Brow wr V.heap.size (rl P (nowF f P a (n + 1)))) := by
            have h := HB2.out
            rw [show k = P by omega, rl_congr (g := nowF f P a (n + 1)) (fun x _ => (HNW.out x).symm)] at h
            exact h
          clear HB2
          go_wp2
          go_roundw
          case rel => exact ⟨n + 1, V.heap.size, by omega, by go_num, rfl, hgW, HB3, hx, HQ2⟩
          case measure => simp [intOf]; omega
    · have hlt' : ¬ (n : Int) ≤ (P : Int) := by omega
      have H : Hid (N = -1) := HNO.out n (by omega) HQ.out
      go_wp2
      go_ret
      exact ⟨ret_of (int_of H.out.symm), hx0.trans hx⟩
end Go.Proofs.YtpbpcplboikpcaaGreat
