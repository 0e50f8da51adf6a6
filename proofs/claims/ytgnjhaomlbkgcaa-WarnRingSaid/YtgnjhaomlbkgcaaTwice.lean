/- The walk of twice: whether a list has a number twice. -/
import Derived.Test.YtgnjhaomlbkgcaaWLiars
import Derived.Maps.OwnSet
namespace Go.Proofs.Ytgnjhaomlbkgcaa
open Go Go.RowKit Go.Shelf Go.Maps
set_option linter.unusedVariables false
set_option linter.unusedSimpArgs false

theorem plainElem_bool_inv {H : Type} {P : Program} {e : TypeId} (he : P.underlying e = some .bool) {v : Value} {z : DataW H × List MemPlace} (h : plainElem P e v = some z) : ∃ a, v = .bool a ∧ z = (.lit (.bool a), []) := by
  unfold plainElem at h
  rw [he] at h
  cases v <;> simp at h
  subst h
  exact ⟨_, rfl, rfl⟩
theorem wpList_lookup_own_bool {H : Type} {P : Program} (w : World) {ops : Array Oper} {rest : List Oper} {o : Oper} {a : Act} {Q : Exit → Act → World → Prop}
    (hg : o.guard = none) (m x : Operand) (t : TypeId) (hop : o.op = Op.lookup t m x false)
    (k e : TypeId) (K : Keyed P k) (ht : P.underlying t = some (.map k e)) (he : P.underlying e = some .bool) (hz : (zeroValue e).run P w = .ok (.bool false) w) (b n : Nat) (D : DataW H)
    (hm : a.eval m = .map (some b)) (hown : w.ownsMap P k (plainElem P e) b n D) (key : Value) (kl : Lit) (hx : a.eval x = key) (hkey : keyOf P k key = some kl)
    (hK : ∀ c : Bool, D.atKey kl (.lit (.bool false)) = .lit (.bool c) → wpList P ops Q rest (a.put o.dst (.bool c)) w) :
    wpList P ops Q (o :: rest) a w := by
  refine wpList_plain hg fun K' hK' => ?_
  obtain ⟨v, ps, hrun, hv⟩ := hown.lookup K ht hz (plainElem_bool he false) hkey
  obtain ⟨c, rfl, hc⟩ := plainElem_bool_inv he hv
  simp only [Prod.mk.injEq] at hc
  unfold Oper.wp
  simp [execOp, hop, hm, hx, hrun, Result.andThen]
  exact hK' _ _ (hK c hc.1)

theorem keyInt : Keyed Try.prog 3 := int_keyed Try.underlying3
theorem zeroBool (w : World) : (zeroValue 4).run Try.prog w = .ok (.bool false) w := by kernel_rfl

/-- The map says which numbers have been met. -/
def MetIs (D : DataW Unit) (l : List Int) : Prop := ∀ x : Int, D.atKey (.int .i64 x) (.lit (.bool false)) = .lit (.bool (memI x l))
theorem memI_snoc (x y : Int) (l : List Int) : memI x (l ++ [y]) = (memI x l || x == y) := by simp [memI, List.any_append]
theorem MetIs.start : MetIs (.map []) [] := fun _ => rfl
theorem MetIs.snoc {D : DataW Unit} {l : List Int} (h : MetIs D l) (hD : IsMap D) (x : Int) : MetIs (D.put (.int .i64 x) (.lit (.bool true))) (l ++ [x]) := fun y => by
  rw [memI_snoc]
  by_cases e : y = x
  · subst e
    rw [atKey_put_same hD (show WideAt.IsKeyLit (.int .i64 y) from trivial)]; simp
  · rw [atKey_put_other (by simpa using e), h y]
    simp [e]
theorem nodup_not {l : List Int} (h : l.Nodup) {k : Nat} {x : Int} (hk : l[k]? = some x) : memI x (l.take k) = false := by
  rw [Bool.eq_false_iff]
  intro hm
  unfold memI at hm
  obtain ⟨y, hy, e⟩ := List.any_eq_true.1 hm
  have e' : x = y := by simpa using e
  subst e'
  obtain ⟨hkl, hke⟩ := List.getElem?_eq_some_iff.1 hk
  obtain ⟨i, hi, he⟩ := List.getElem_of_mem hy
  rw [List.getElem_take] at he
  simp only [List.length_take] at hi
  have h2 := List.pairwise_iff_getElem.1 h i k (by omega) hkl (by omega)
  rw [he, hke] at h2
  exact h2 rfl

set_option maxRecDepth 100000 in
set_option maxHeartbeats 1000000 in
theorem twice_any (A : Option Addr) (c0 : Nat) (l : List Int) (w : World) (hA : Ints w A l) (hl : l.length ≤ 1000000) (hn : l.Nodup) (hr : ∀ x ∈ l, 0 ≤ x ∧ x ≤ 1000000) :
    Calls Try.prog 27 #[.slice A l.length c0] w fun e w' => e = .returned (.bool false) ∧ Ext w w' := by
  have hmm := @run_makeMap Try.prog
  have HN : Hid (∀ (k : Nat) (x : Int), l[k]? = some x → memI x (l.take k) = false) := fun k x h => nodup_not hn h
  have HR := hid hr
  clear hr hn
  go_enter Try.func27, Try.ntmps27
  go_wp2
  go_loopw [9] (fun i wr => ∃ (k : Nat) (D : DataW Unit), k ≤ l.length ∧ i = .int .i64 k ∧ wr.ownsMap Try.prog 3 (plainElem Try.prog 4) w.heap.size k D ∧ MetIs D (l.take k) ∧ Below w.heap.size w wr)
    (fun i _ => l.length - (intOf i).toNat)
  case atStart => exact ⟨0, .map [], Nat.zero_le _, rfl, World.ownsMap_made _ _ _ _, MetIs.start, (Below.refl _ _).alloc (Nat.le_refl _) _⟩
  case round =>
    obtain ⟨k, D, hk, rfl, hown, hmet, hnx⟩ := hrel
    by_cases hlt : k < l.length
    · have hlt' : (k : Int) < (l.length : Int) := by omega
      obtain ⟨x, hx⟩ := get_of_lt l k hlt
      have hx1 := HR.out x (mem_of_get hx)
      have hno := HN.out k x hx
      obtain ⟨b, off, rfl, e0⟩ := Ints.at_ (Ints.ext hA hnx) hx
      have hkey : keyOf Try.prog 3 (.int .i64 x) = some (.int .i64 x) := keyOf_int_mk Try.underlying3 (WalkArith.wf_i64 (by omega))
      have hsn := hmet.snoc hown.isMap x
      rw [show l.take k ++ [x] = l.take (k + 1) by rw [List.take_add_one, hx]; rfl] at hsn
      have hat0 := hmet x
      rw [hno] at hat0
      have HS := hid hsn
      have HAT := hid hat0
      clear hsn hat0 hmet hno hx
      go_wp2_with (first
        | (at_lookup; refine wpList_lookup_own_bool _ rfl _ _ 144 rfl 3 4 keyInt Try.underlying144 Try.underlying4 (zeroBool _) w.heap.size k _ rfl hown _ _ rfl hkey ?_; intro c hat; obtain rfl : c = false := (by have h := hat.symm.trans HAT.out; simpa using h))
        | (at_mapUpdate; refine wpList_mapUpdate_own _ rfl _ _ _ 144 rfl 3 4 keyInt Try.underlying144 _ w.heap.size k _ rfl hown (by unfold maxLen; omega) _ _ _ rfl rfl hkey _ [] (plainElem_bool Try.underlying4 true) ?_; intro w1 hown1 hgrow1)
        | go_in)
      go_roundw
      case rel => exact ⟨k + 1, _, by omega, by go_num, hown1, HS.out, hnx.grown hgrow1 hnx.size (fun j hj => by cases hj; exact Nat.le_refl _)⟩
      case measure => simp [intOf]; omega
    · have hlt' : ¬ (k : Int) < (l.length : Int) := by omega
      go_wp2
      go_ret
      exact ⟨rfl, hnx⟩
end Go.Proofs.Ytgnjhaomlbkgcaa
