/- Words for WarnGaps: the table of gaps in memory, a row that grows in a drawn region. No program stands here but its types. -/
import Derived.Test.YtgnjhaomlbkgcaaWGapsP
import Derived.Test.YtgnjhaomlbkgcaaKeep
import Derived.Test.YtgnjhaomlbkgcaaBelS
import Derived.Test.YtgnjhaomlbkgcaaWMade
import Derived.Test.YtgnjhaomlbkgcaaWLatest
import Derived.Test.YtgnjhaomlbkgcaaLawT
namespace Go.Proofs.Ytgnjhaomlbkgcaa
open Go Go.RowKit
set_option linter.unusedVariables false
set_option linter.unusedSimpArgs false

/-- Block B is a table of numbers. -/
def GB (w : World) (B : Nat) (g : Mat) : Prop := w.heap[B]? = some (.cells ((gl g).map (Value.int .i64)).toArray 57 (0, 0))
section
variable {w w' : World} {B : Nat} {g : Mat}
theorem GB.lt (h : GB w B g) : B < w.heap.size := (Array.getElem?_eq_some_iff.1 h).1
theorem GB.ext (h : GB w B g) (hx : Ext w w') : GB w' B g := (Below.block hx B h.lt).trans h
theorem GB.bel {D : Nat} (h : GB w B g) (hx : Bel D w w') (hne : B ≠ D) : GB w' B g := hx.heap h hne
theorem GB.at_ (h : GB w B g) {a b : Nat} (ha : a < 8) (hb : b < 8) : w.cell? ⟨B, a * 8 + b, none⟩ = some (.int .i64 (g a b)) := by
  rw [cell_of_row w B _ _ _ _ h]
  simp [gl_get g a b ha hb]
theorem GB.frozen (h : GB w B g) (i : Nat) : w.frozen? ⟨B, i, none⟩ = false := by
  unfold GB at h
  simp [World.frozen?, h]
theorem GB.set (h : GB w B g) {a b : Nat} (ha : a < 8) (hb : b < 8) (x : Int) : GB (w.setCell ⟨B, a * 8 + b, none⟩ (.int .i64 x)) B (upd g a b x) := by
  unfold GB at h ⊢
  simp only [World.setCell, Array.getElem?_modify, h, if_true, Option.map_some]
  simp only [List.setIfInBounds_toArray, gl_upd g a b x ha hb, List.map_set, Option.isSome_none, Bool.false_eq_true, if_false]
theorem GB.congr {g' : Mat} (h : GB w B g) (he : gl g = gl g') : GB w B g' := by
  unfold GB at *
  rw [← he]; exact h
end
theorem gb_new (w : World) (z : Array Value) (hz : z = ((gl fun _ _ => 0).map (Value.int .i64)).toArray) : GB (w.alloc (.cells z 57)) w.heap.size (fun _ _ => 0) := by
  subst hz
  exact heap_alloc_new w _

/-- The table in which the places ahead of (a, b) have been laid. -/
def tabTo (c : Cs) (n a b : Nat) : Mat := fun x y => if (x < a ∨ (x = a ∧ y < b)) ∧ y < n then gst c x y else 0
theorem tabTo_start (c : Cs) (n : Nat) : tabTo c n 0 0 = fun _ _ => 0 := by
  funext x y
  unfold tabTo
  rw [if_neg (by omega)]
theorem tabTo_set (c : Cs) {n a b : Nat} (hb : b < n) : upd (tabTo c n a b) a b (gst c a b) = tabTo c n a (b + 1) := by
  funext x y
  unfold upd tabTo
  by_cases h : x = a ∧ y = b
  · obtain ⟨rfl, rfl⟩ := h
    rw [if_pos ⟨rfl, rfl⟩, if_pos (by omega)]
  · rw [if_neg h]
    exact ite_iff (by omega) _ _
theorem tabTo_set2 (c : Cs) {n a b : Nat} (hb : b < n) (z : Int) : upd (upd (tabTo c n a b) a b z) a b (gst c a b) = tabTo c n a (b + 1) := by
  rw [← tabTo_set c hb]
  funext x y
  unfold upd
  split <;> rfl
theorem tabTo_next (c : Cs) (n a : Nat) : tabTo c n a n = tabTo c n (a + 1) 0 := by
  funext x y
  unfold tabTo
  exact ite_iff (by omega) _ _
theorem tabTo_get (c : Cs) {n a b : Nat} (ha : a < n) (hb : b < n) : tabTo c n n 0 a b = gst c a b := by
  unfold tabTo
  rw [if_pos (by omega)]
def gstRow (c : Cs) (n : Nat) : List Int := (List.range n).map fun x => gst c 0 x
theorem gstRow_len (c : Cs) (n : Nat) : (gstRow c n).length = n := by simp [gstRow]
theorem GB.row {w : World} {B n : Nat} {c : Cs} (h : GB w B (tabTo c n n 0)) (hn : n ≤ 8) (h1 : 1 ≤ n) : Ints w (some ⟨B, 0, none⟩) (gstRow c n) := .inr ⟨B, 0, rfl, fun j u hu => by
  rw [List.getElem?_map] at hu
  unfold gstRow at hu
  rw [List.getElem?_map] at hu
  rcases Nat.lt_or_ge j n with hj | hj
  · rw [List.getElem?_range hj] at hu
    cases hu
    have := h.at_ (a := 0) (b := j) (by omega) (by omega)
    rw [tabTo_get c (by omega) hj] at this
    simpa using this
  · rw [List.getElem?_eq_none (by simp; omega)] at hu; cases hu⟩
theorem latest_gst {c : Cs} {n : Nat} (h0 : checkC c = 0) (hf : Fine c.all) (hn : c.ev = n) : (latestC c = 0 ∧ memI 1073741824 (gstRow c n) = false ∧ gstRow c n = rowG (gapsM allT c) n) ∨ (latestC c = 6 ∧ memI 1073741824 (gstRow c n) = true) := by
  have hev := checkC_ev h0
  have ht : toldC c = 0 := by
    unfold toldC
    rw [if_pos h0, clash_of h0 (by rw [belL_all]; exact hf)]; rfl
  have hnn : c.ev.toNat = n := by rw [hn]; simp
  unfold latestC
  rw [if_neg (by rw [ht]; simp), hnn]
  cases hq : memI 1099511627776 (rowG (gapsM allT c) n)
  · left
    have hall : ∀ x, x < n → gapsM allT c 0 x ≠ far := fun x hx e => by
      have : memI 1099511627776 (rowG (gapsM allT c) n) = true := by
        unfold memI rowG
        rw [List.any_eq_true]
        exact ⟨gapsM allT c 0 x, List.mem_map.2 ⟨x, List.mem_range.2 hx, rfl⟩, by rw [e]; rfl⟩
      rw [hq] at this; cases this
    have he : gstRow c n = rowG (gapsM allT c) n := by
      unfold gstRow rowG
      exact List.map_congr_left fun x hx => gst_is (hall x (List.mem_range.1 hx))
    refine ⟨by simp, ?_, he⟩
    rw [Bool.eq_false_iff]
    intro hm
    unfold memI at hm
    obtain ⟨y, hy, e⟩ := List.any_eq_true.1 hm
    unfold gstRow at hy
    obtain ⟨x, hx, rfl⟩ := List.mem_map.1 hy
    have hx' := List.mem_range.1 hx
    have := (gst_lt h0 hf (a := 0) (b := x) (by omega) (by omega)).2 (hall x hx')
    have e' : (1073741824 : Int) = gst c 0 x := by simpa using e
    omega
  · right
    refine ⟨by simp, ?_⟩
    unfold memI at hq ⊢
    obtain ⟨y, hy, e⟩ := List.any_eq_true.1 hq
    unfold rowG at hy
    obtain ⟨x, hx, rfl⟩ := List.mem_map.1 hy
    have e' : (1099511627776 : Int) = gapsM allT c 0 x := by simpa using e
    rw [List.any_eq_true]
    refine ⟨gst c 0 x, List.mem_map.2 ⟨x, hx, rfl⟩, ?_⟩
    unfold gst
    rw [if_pos (by unfold far; exact e'.symm)]
    rfl
theorem along_snoc {L : List Bd} : ∀ {row : List Int} {a s e n : Int} {i : Int} {x : Bd}, alongC L a s row = some (e, n) → L[i.toNat]? = some x → x.f = e → alongC L a s (row ++ [i]) = some (x.t, n + x.m) := by
  intro row
  induction row with
  | nil =>
    intro a s e n i x h hx hf
    simp only [alongC, Option.some.injEq, Prod.mk.injEq] at h
    obtain ⟨rfl, rfl⟩ := h
    simp only [List.nil_append, alongC, hx, hf, if_true]
  | cons y row ih =>
    intro a s e n i x h hx hf
    rw [List.cons_append]
    unfold alongC at h ⊢
    rcases hy : L[y.toNat]? with _ | z
    · rw [hy] at h; cases h
    · rw [hy] at h
      simp only at h ⊢
      by_cases hz : z.f = a
      · rw [if_pos hz] at h ⊢; exact ih h hx hf
      · rw [if_neg hz] at h; cases h

/-- What goes on while one element x is laid behind a row xs of L elements in a drawn region; the row that comes out keeps being one's own. -/
def Laid3 (B : Nat) (e : TypeId) (L : Nat) (xs : List Value) (x : Value) (w w' : World) : Prop := Laid B e L xs x w w' ∧ ∀ v, w.ownsRow B e 1 v (L + 1) (xs ++ [x]) → w'.ownsRow B e 1 v (L + 1) (xs ++ [x])
section
variable {B : Nat} {e : TypeId} {L : Nat} {xs : List Value} {x : Value}
theorem Laid3.refl (w : World) : Laid3 B e L xs x w w := ⟨Laid.refl w, fun _ h => h⟩
theorem Laid3.trans {a b c : World} (h : Laid3 B e L xs x a b) (k : Laid3 B e L xs x b c) : Laid3 B e L xs x a c := ⟨h.1.trans k.1, fun v hv => k.2 v (h.2 v hv)⟩
theorem Laid3.of_ext {w w' : World} (h : Ext w w') (hB : B ≤ w.heap.size) : Laid3 B e L xs x w w' := ⟨Laid.of_ext h hB, fun _ hv => own_below hv h⟩
theorem Laid3.of_grown {w w' : World} {g cap : Nat} (hxs : xs.length = L) (h0 : w.ownsRow B e 1 (.slice (some ⟨g, 0, none⟩) L cap) L xs) (h1 : w'.ownsRow B e 1 (.slice (some ⟨g, 0, none⟩) (L + 1) cap) (L + 1) (xs ++ [x])) (hg : w.grownBy w' (some g)) : Laid3 B e L xs x w w' := by
  refine ⟨Laid.of_grown hxs h0 h1 hg, fun v hv => ⟨hv.1, ?_⟩⟩
  rcases hv.2 with h | ⟨g2, cap2, cur2, rfl, b1, b2, b3, b4, b5, b6⟩
  · exact .inl h
  · by_cases hgg : g2 = g
    · subst hgg
      rcases h0.2 with ⟨h, _⟩ | ⟨g3, cap3, cur3, e3, c1, c2, c3, c4, c5, c6⟩
      · cases h
      · cases e3
        rw [b2] at c2
        cases c2
        rcases h1.2 with ⟨h, _⟩ | ⟨g4, cap4, cur4, e4, d1, d2, d3, d4, d5, d6⟩
        · cases h
        · cases e4
          exact .inr ⟨g2, cap2, cur4, rfl, b1, d2, b3, b4, by omega, d6⟩
    · exact .inr ⟨g2, cap2, cur2, rfl, b1, (hg.block g2 (Array.getElem?_eq_some_iff.1 b2).1 (fun e => hgg (by cases e; rfl))).trans b2, b3, b4, b5, b6⟩
end
end Go.Proofs.Ytgnjhaomlbkgcaa
