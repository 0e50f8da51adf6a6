/- The law's walked: a walk of a cart, whatever it reports. Printed by my gen_fwalkd.py. -/
import Derived.Test.YtlonpgbapiemcaaFMadeR
import Derived.Test.YtlonpgbapiemcaaFBesi
namespace Go.Proofs.Ytlonpgbapiemcaa
open Go Go.RowKit Go.Shelf
set_option linter.unusedVariables false
set_option linter.unusedSimpArgs false

theorem rd_blk {w : World} {B : Nat} {xs : List Value} {T : TypeId} {fr : Nat × Nat} (h : w.heap[B]? = some (.cells xs.toArray T fr)) : Rd w (some ⟨B, 0, none⟩) xs := by
  refine .inr ⟨B, 0, rfl, fun j u hu => ?_⟩
  rw [Nat.zero_add, cell_of_row w B j _ _ _ h]
  simpa using hu
/-- So many steps of a real walk. -/
structure WalkTo (f : Fg) (c : Ct) (l : List Int) (j : Nat) : Prop where
  len : l.length = j + 1
  pl : ∀ x ∈ l, 0 ≤ x ∧ x < f.pl
  st : l.getD 0 0 ∈ c.st
  step : ∀ i, i < j → l.getD i 0 = l.getD (i + 1) 0 ∨ besideL f.tr (l.getD i 0) (l.getD (i + 1) 0) = true
theorem WalkTo.start {f : Fg} (h : FogOK f) {c : Ct} (hc : c ∈ f.ct) {x : Int} (hx : x ∈ c.st) : WalkTo f c [x] 0 :=
  ⟨rfl, fun y hy => by simp only [List.mem_singleton] at hy; subst hy; exact h.st c hc y hx, hx, fun i hi => by omega⟩
theorem WalkTo.at_ {f : Fg} {c : Ct} {l : List Int} {j : Nat} (h : WalkTo f c l j) : ∃ x : Nat, l[j]? = some (x : Int) ∧ (x : Int) < f.pl ∧ l.getD j 0 = (x : Int) := by
  have hl := h.len
  have hj : j < l.length := by omega
  have hx := h.pl l[j] (List.getElem_mem hj)
  refine ⟨l[j].toNat, ?_, by omega, ?_⟩
  · rw [List.getElem?_eq_getElem hj]; congr 1; omega
  · rw [List.getD_eq_getElem?_getD, List.getElem?_eq_getElem hj]; simp only [Option.getD_some]; omega
theorem WalkTo.next {f : Fg} {c : Ct} {l : List Int} {j : Nat} (h : WalkTo f c l j) {z : Int} (h0 : 0 ≤ z) (h1 : z < f.pl) (hz : l.getD j 0 = z ∨ besideL f.tr (l.getD j 0) z = true) : WalkTo f c (l ++ [z]) (j + 1) := by
  have hl := h.len
  have e1 : ∀ i, i < l.length → (l ++ [z]).getD i 0 = l.getD i 0 := fun i hi => by
    rw [List.getD_eq_getElem?_getD, List.getD_eq_getElem?_getD, List.getElem?_append_left hi]
  have e2 : (l ++ [z]).getD (j + 1) 0 = z := by
    rw [List.getD_eq_getElem?_getD, List.getElem?_append_right (by omega), hl]; simp
  refine ⟨by simp [hl], fun x hx => ?_, by rw [e1 0 (by omega)]; exact h.st, fun i hi => ?_⟩
  · rcases List.mem_append.1 hx with hx | hx
    · exact h.pl x hx
    · simp only [List.mem_singleton] at hx; subst hx; exact ⟨h0, h1⟩
  · rw [e1 i (by omega)]
    by_cases hij : i = j
    · subst hij
      rw [e2]; exact hz
    · rw [e1 (i + 1) (by omega)]
      exact h.step i (by omega)
theorem WalkTo.real {f : Fg} {c : Ct} {l : List Int} {j : Nat} (h : WalkTo f c l j) (hj : j = f.mi.toNat) : RealW f c l :=
  ⟨by rw [h.len, hj], h.pl, h.st, fun i hi => h.step i (by omega)⟩
def WalkPost (D : Nat) (w : World) (f : Fg) (c : Ct) (e : Ending) (w' : World) : Prop :=
  ∃ l A q B, e = .returned (.slice A l.length q) ∧ Bel D w w' ∧ HeapR w' D ∧ RealW f c l ∧ w.heap.size ≤ B ∧ w'.ownsRow B 3 1 (.slice A l.length q) l.length (l.map (.int .i64))

end Go.Proofs.Ytlonpgbapiemcaa
