/- The desk in memory: a case and its gaps in one block. -/
import Derived.Test.YtgnjhaomlbkgcaaWMat
import Derived.Test.YtgnjhaomlbkgcaaProg
import Derived.Test.YtgnjhaomlbkgcaaArr
namespace Go.Proofs.Ytgnjhaomlbkgcaa
open Go Go.RowKit
set_option linter.unusedVariables false
set_option linter.unusedSimpArgs false

def dcells (A1 : Option Addr) (c1 : Nat) (A2 : Option Addr) (c2 : Nat) (c : Cs) (g : Mat) : List Value :=
  .int .i64 c.ev :: .slice A1 c.bs.length c1 :: .int .i64 c.wi :: .slice A2 c.cl.length c2 :: (gl g).map (.int .i64)
/-- Block D is a desk with the gaps g. -/
def Desk (w : World) (D : Nat) (A1 : Option Addr) (c1 : Nat) (A2 : Option Addr) (c2 : Nat) (c : Cs) (g : Mat) : Prop := w.heap[D]? = some (.cells (dcells A1 c1 A2 c2 c g).toArray 136 (0, 0))
section
variable {w w' : World} {D : Nat} {A1 A2 : Option Addr} {c1 c2 : Nat} {c : Cs} {g : Mat}
theorem Desk.lt (h : Desk w D A1 c1 A2 c2 c g) : D < w.heap.size := (Array.getElem?_eq_some_iff.1 h).1
theorem Desk.ext (h : Desk w D A1 c1 A2 c2 c g) (hx : Ext w w') : Desk w' D A1 c1 A2 c2 c g := (Below.block hx D h.lt).trans h
theorem Desk.cell (h : Desk w D A1 c1 A2 c2 c g) (i : Nat) : w.cell? ⟨D, i, none⟩ = (dcells A1 c1 A2 c2 c g)[i]? := by
  rw [cell_of_row w D i _ _ _ h]; simp
theorem Desk.at_ (h : Desk w D A1 c1 A2 c2 c g) {a b : Nat} (ha : a < 8) (hb : b < 8) : w.cell? ⟨D, 4 + a * 8 + b, none⟩ = some (.int .i64 (g a b)) := by
  rw [h.cell, show 4 + a * 8 + b = (a * 8 + b) + 4 by omega]
  simp [dcells, gl_get g a b ha hb]
theorem Desk.ev (h : Desk w D A1 c1 A2 c2 c g) : w.cell? ⟨D, 0, none⟩ = some (.int .i64 c.ev) := by rw [h.cell]; rfl
theorem Desk.bs (h : Desk w D A1 c1 A2 c2 c g) : w.cell? ⟨D, 1, none⟩ = some (.slice A1 c.bs.length c1) := by rw [h.cell]; rfl
theorem Desk.wi (h : Desk w D A1 c1 A2 c2 c g) : w.cell? ⟨D, 2, none⟩ = some (.int .i64 c.wi) := by rw [h.cell]; rfl
theorem Desk.cl (h : Desk w D A1 c1 A2 c2 c g) : w.cell? ⟨D, 3, none⟩ = some (.slice A2 c.cl.length c2) := by rw [h.cell]; rfl
theorem Desk.frozen (h : Desk w D A1 c1 A2 c2 c g) (i : Nat) : w.frozen? ⟨D, i, none⟩ = false := by
  unfold Desk at h
  simp [World.frozen?, h]
theorem Desk.set (h : Desk w D A1 c1 A2 c2 c g) {a b : Nat} (ha : a < 8) (hb : b < 8) (x : Int) : Desk (w.setCell ⟨D, 4 + a * 8 + b, none⟩ (.int .i64 x)) D A1 c1 A2 c2 c (upd g a b x) := by
  unfold Desk at h ⊢
  simp only [World.setCell, Array.getElem?_modify, h, if_true, Option.map_some]
  have e : 4 + a * 8 + b = a * 8 + b + 1 + 1 + 1 + 1 := by omega
  simp only [e, dcells, List.setIfInBounds_toArray, List.set_cons_succ, gl_upd g a b x ha hb, List.map_set, Option.isSome_none, Bool.false_eq_true, if_false]
theorem Desk.gaps (h : Desk w D A1 c1 A2 c2 c g) : ∀ j v, ((gl g).map (Value.int .i64))[j]? = some v → w.cell? ((⟨D, 4, none⟩ : Addr).add j) = some v := by
  intro j v hj
  rw [Addr.add_lit, h.cell, show 4 + j = j + 4 by omega]
  simpa [dcells] using hj
theorem Desk.congr {g' : Mat} (h : Desk w D A1 c1 A2 c2 c g) (he : gl g = gl g') : Desk w D A1 c1 A2 c2 c g' := by
  unfold Desk dcells at *
  rw [← he]; exact h
end

/-! ### All blocks but one as they were -/
/-- Nothing that lay has turned but block D. -/
def Bel (D : Nat) (w w' : World) : Prop := Below 0 w w' ∧ ∀ k, k < w.heap.size → k ≠ D → w'.heap[k]? = w.heap[k]?
theorem Bel.refl (D : Nat) (w : World) : Bel D w w := ⟨Below.refl _ _, fun _ _ _ => rfl⟩
theorem Bel.size {D : Nat} {w w' : World} (h : Bel D w w') : w.heap.size ≤ w'.heap.size := h.1.size
theorem Bel.trans {D : Nat} {a b c : World} (h : Bel D a b) (k : Bel D b c) : Bel D a c :=
  ⟨h.1.trans k.1, fun i hi hD => (k.2 i (Nat.lt_of_lt_of_le hi h.size) hD).trans (h.2 i hi hD)⟩
theorem Ext.bel {D : Nat} {w w' : World} (h : Ext w w') : Bel D w w' := ⟨Below.mono h (Nat.zero_le _), fun k hk _ => Below.block h k hk⟩
theorem heap_setCell_ne (w : World) (p : Addr) (u : Value) (k : Nat) (h : k ≠ p.block) : (w.setCell p u).heap[k]? = w.heap[k]? := Below.heap_setCell _ _ _ k h
theorem Bel.setCell {D : Nat} {a w : World} (h : Bel D a w) (i : Nat) (u : Value) : Bel D a (w.setCell ⟨D, i, none⟩ u) :=
  h.trans ⟨(Below.refl 0 w).setCell (Nat.zero_le _) u, fun k _ hD => heap_setCell_ne _ _ _ _ hD⟩
theorem cell_of_heap {w w' : World} {p : Addr} (h : w'.heap[p.block]? = w.heap[p.block]?) : w'.cell? p = w.cell? p := by
  unfold World.cell?; rw [h]
theorem Bel.cell {D : Nat} {w w' : World} (h : Bel D w w') {p : Addr} {u : Value} (hp : w.cell? p = some u) (hne : p.block ≠ D) : w'.cell? p = some u :=
  (cell_of_heap (h.2 _ (World.block_lt_of_cell? w p hp) hne)).trans hp
theorem Bel.cel {D : Nat} {w w' : World} (h : Bel D w w') : Cel D w w' := ⟨h.size, fun _ _ hne hp => h.cell hp hne⟩
theorem Bel.heap {D : Nat} {w w' : World} (h : Bel D w w') {k : Nat} {o : Obj} (hk : w.heap[k]? = some o) (hne : k ≠ D) : w'.heap[k]? = some o :=
  (h.2 k (Array.getElem?_eq_some_iff.1 hk).1 hne).trans hk
theorem Ext.then_bel {D : Nat} {a w w' : World} (h : Ext a w) (hD : a.heap.size ≤ D) (k : Bel D w w') : Ext a w' := by
  obtain ⟨h1, h2, h3, h4, h5⟩ := h
  obtain ⟨⟨k1, k2, k3, k4, _⟩, k5⟩ := k
  refine ⟨?_, ?_, ?_, ?_, fun i hi => ?_⟩
  · exact k1.trans h1
  · exact k2.trans h2
  · exact k3.trans h3
  · exact Nat.le_trans h4 k4
  · exact (k5 i (by omega) (by omega)).trans (h5 i hi)
theorem Cel.setCell {D : Nat} (w : World) (i : Nat) (u : Value) : Cel D w (w.setCell ⟨D, i, none⟩ u) := ((Bel.refl D w).setCell i u).cel

/-! ### The first gaps -/
theorem ite_iff {α : Type} {p q : Prop} [Decidable p] [Decidable q] (h : p ↔ q) (x y : α) : (if p then x else y) = if q then x else y := by
  by_cases hp : p
  · rw [if_pos hp, if_pos (h.1 hp)]
  · rw [if_neg hp, if_neg (fun hq => hp (h.2 hq))]
theorem gl_init : gl (initTo 0 0) = List.replicate 64 0 := by decide
theorem Desk.init_same {w : World} {D : Nat} {A1 A2 : Option Addr} {c1 c2 : Nat} {c : Cs} {a b : Nat} (h : Desk w D A1 c1 A2 c2 c (initTo a b)) (e : a = b) : Desk w D A1 c1 A2 c2 c (initTo a (b + 1)) :=
  h.congr (gl_congr fun x y _ _ => by
    unfold initTo init0
    by_cases h : x = a ∧ y = b
    · obtain ⟨rfl, rfl⟩ := h
      simp [e]
    · exact ite_iff (by omega) _ _)
theorem Desk.init_set {w : World} {D : Nat} {A1 A2 : Option Addr} {c1 c2 : Nat} {c : Cs} {a b : Nat} (h : Desk w D A1 c1 A2 c2 c (initTo a b)) (e : a ≠ b) (ha : a < 8) (hb : b < 8) :
    Desk (w.setCell ⟨D, 4 + a * 8 + b, none⟩ (.int .i64 1099511627776)) D A1 c1 A2 c2 c (initTo a (b + 1)) :=
  (h.set ha hb 1099511627776).congr (gl_congr fun x y _ _ => by
    unfold upd initTo init0 far
    by_cases h : x = a ∧ y = b
    · obtain ⟨rfl, rfl⟩ := h
      simp [e]
    · rw [if_neg h]; exact ite_iff (by omega) _ _)
theorem Desk.init_row {w : World} {D : Nat} {A1 A2 : Option Addr} {c1 c2 : Nat} {c : Cs} {a b : Nat} (h : Desk w D A1 c1 A2 c2 c (initTo a b)) (hb : 8 ≤ b) : Desk w D A1 c1 A2 c2 c (initTo (a + 1) 0) :=
  h.congr (gl_congr fun x y _ hy => by
    unfold initTo
    exact ite_iff (by omega) _ _)
theorem Desk.init_all {w : World} {D : Nat} {A1 A2 : Option Addr} {c1 c2 : Nat} {c : Cs} {a : Nat} (h : Desk w D A1 c1 A2 c2 c (initTo a 0)) (ha : 8 ≤ a) : Desk w D A1 c1 A2 c2 c init0 :=
  h.congr (gl_congr fun x y hx hy => by
    unfold initTo
    rw [if_pos (by omega)])

/-! least -/
def leastL (n : Int) (l : List Int) : Int := l.foldl min n
set_option maxHeartbeats 400000 in
theorem least_any (n : Int) (A : Option Addr) (k : Nat) (l : List Int) (w : World) (hA : Ints w A l) (hl : l.length ≤ 9223372036854775807) :
    Calls Try.prog 86 #[.int .i64 n, .slice A l.length k] w fun e w' => e = .returned (.int .i64 (leastL n l)) ∧ w = w' := by
  have HF : Hid (leastL n l = leastL n (l.drop 0)) := rfl
  generalize hF : leastL n l = F at HF ⊢
  clear hF
  have HA := hid hA
  clear hA
  go_enter Try.func86, Try.ntmps86
  go_wp2
  go_loop [0, 9] (fun s0 s9 => ∃ (kk : Nat) (m : Int), kk ≤ l.length ∧ s9 = .int .i64 kk ∧ s0 = .int .i64 m ∧ Hid (F = leastL m (l.drop kk))) (fun _ i => l.length - (intOf i).toNat)
  case atStart => exact ⟨0, n, Nat.zero_le _, rfl, rfl, HF⟩
  case round =>
    obtain ⟨kk, m, h1, rfl, rfl, HF⟩ := hrel
    by_cases hlt : kk < l.length
    · have hlt' : (kk : Int) < (l.length : Int) := by omega
      obtain ⟨x, hx⟩ := get_of_lt l kk hlt
      obtain ⟨b, off, rfl, c0⟩ := Ints.at_ HA.out hx
      have HX := hid hx
      clear hx
      have HD : Hid (F = leastL (min m x) (l.drop (kk + 1))) := by
        unfold Hid
        rw [HF.out, List.drop_eq_getElem_cons hlt, (List.getElem?_eq_some_iff.1 HX.out).2]; rfl
      go_wp2
      all_goals
        go_round
        case rel => exact ⟨kk + 1, _, by omega, by go_num, rfl, by first | exact HD | (unfold Hid; rw [HD.out]; congr 1; omega)⟩
        case measure => simp [intOf]; omega
    · have hlt' : ¬ (kk : Int) < (l.length : Int) := by omega
      go_wp2
      go_ret
      exact ⟨ret_of (int_of (by rw [HF.out, List.drop_eq_nil_of_le (by omega)]; rfl)), rfl⟩
end Go.Proofs.Ytgnjhaomlbkgcaa
