/- copy into a row of the call's own; make with room for more. No program stands here. -/
import Derived.Test.YtlonpgbapiemcaaGreatG2
import Derived.Laws.CopyOwn
import Derived.OwnWalk
namespace Go.Proofs.YtlonpgbapiemcaaGreat
open Go Go.RowKit
set_option linter.unusedVariables false
set_option linter.unusedSimpArgs false

section
variable {P : Program}
theorem run_copy_sized (w : World) (dT sT ty elem : TypeId) (sz g o dLen dCap : Nat) (a : Addr) (sLen sCap n : Nat) (cur : Array Value) (t : TypeId) (cs : List Value)
    (hu : P.underlying dT = some (.slice elem)) (hs : (P.info? elem).map (·.size) = some sz)
    (hg : w.heap[g]? = some (.cells cur t (0, 0))) (hn : n = Nat.min sLen dLen) (hcl : cs.length = n * sz)
    (hsrc : ∀ j v, cs[j]? = some v → w.cell? (a.add j) = some v) (hfit : o + cs.length ≤ cur.size) (h1 : ∀ v ∈ cs, v.oneCell' = true) :
    (Builtin.copy_ #[dT, sT] ty #[.slice (some ⟨g, o, none⟩) dLen dCap, .slice (some a) sLen sCap]).run P w =
      .ok (goInt n) (w.setRow g (cur.toList.take o ++ cs ++ cur.toList.drop (o + cs.length)).toArray) := by
  have hl := run_loadCells_list (P := P) w a cs hsrc
  have hst := run_storeCells_at P g o t cs 0 cur w hg (by simpa using hfit) h1
  rw [hcl] at hl
  cases hq : P.info? elem with
  | none => simp [hq] at hs
  | some i =>
    have hi : i.size = sz := by simpa [hq] using hs
    simp [Builtin.copy_, run_underlying hu, Builtin.lenOf, Builtin.firstCells, sizeOf, typeInfo, hq, hi, ← hn, hl, hst]
theorem run_copy_zero (w : World) (dT sT ty elem : TypeId) (sz : Nat) (dp sp : Option Addr) (dLen dCap sLen sCap : Nat) (hu : P.underlying dT = some (.slice elem)) (hs : (P.info? elem).map (·.size) = some sz) (hn : Nat.min sLen dLen = 0) :
    (Builtin.copy_ #[dT, sT] ty #[.slice dp dLen dCap, .slice sp sLen sCap]).run P w = .ok (goInt 0) w := by
  cases hq : P.info? elem with
  | none => simp [hq] at hs
  | some i =>
    have hi : i.size = sz := by simpa [hq] using hs
    have hl : ∀ (x : Addr), (loadCells x 0).run P w = .ok #[] w := fun x => by simpa using run_loadCells_list (P := P) w x [] (by simp)
    cases dp <;> cases sp <;> simp [Builtin.copy_, run_underlying hu, Builtin.lenOf, Builtin.firstCells, sizeOf, typeInfo, hq, hi, hn, storeCells, hl]

/-- copy into a row of the call's own that is at least as long. -/
theorem run_copy_into (w : World) (dT sT ty elem e : TypeId) (sz : Nat) {B N cap g : Nat} {xs : List Value} (hu : P.underlying dT = some (.slice elem)) (hs : (P.info? elem).map (·.size) = some sz)
    (hown : w.ownsRow B e sz (.slice (some ⟨g, 0, none⟩) N cap) N xs) (A : Option Addr) (m c : Nat) (cs : List Value) (hm : m ≤ N) (hcl : cs.length = m * sz) (hr : Rd w A cs) (h1 : ∀ v ∈ cs, v.oneCell' = true) (hsz : 0 < sz) :
    ∃ w', (Builtin.copy_ #[dT, sT] ty #[.slice (some ⟨g, 0, none⟩) N cap, .slice A m c]).run P w = .ok (goInt m) w' ∧ w'.ownsRow B e sz (.slice (some ⟨g, 0, none⟩) N cap) N (cs ++ xs.drop (m * sz)) ∧ BelS (fun k => k = g) w w' := by
  have hmin : m = Nat.min m N := (Nat.min_eq_left hm).symm
  rcases Nat.eq_zero_or_pos m with h0 | h0
  · subst h0
    have hcs : cs = [] := List.eq_nil_of_length_eq_zero (by simpa using hcl)
    subst hcs
    exact ⟨w, run_copy_zero w dT sT ty elem sz _ A N cap 0 c hu hs (by simp), by simpa using hown, BelS.refl _ _⟩
  · have hne : cs ≠ [] := by
      intro e; subst e
      have := Nat.mul_pos h0 hsz
      simp at hcl; omega
    obtain ⟨b, off, rfl, hc⟩ := hr.at_ hne
    rcases hown.2 with ⟨h, _⟩ | ⟨g', cap', cur, h, hb, hg, hnc, hcm, hcs, htake⟩
    · cases h
    · cases h
      have hmN : m * sz ≤ N * sz := Nat.mul_le_mul_right sz hm
      have hNc : N * sz ≤ cap * sz := Nat.mul_le_mul_right sz hnc
      have hrun := run_copy_sized (P := P) w dT sT ty elem sz g 0 N cap ⟨b, off, none⟩ m c m cur e cs hu hs hg hmin hcl (fun j v hv => by rw [Addr.add_lit]; exact hc j v hv) (by omega) h1
      refine ⟨_, hrun, ⟨?_, .inr ⟨g, cap, _, rfl, hb, setRow_heap w g cur _ e (0, 0) hg, hnc, hcm, ?_, ?_⟩⟩, ?_⟩
      · rw [List.length_append, List.length_drop, hown.1]; omega
      · simp only [List.take_zero, List.nil_append, Nat.zero_add, List.size_toArray, List.length_append, List.length_drop, Array.length_toList]
        omega
      · simp only [List.take_zero, List.nil_append, Nat.zero_add]
        rw [← htake, List.drop_take, List.take_append, List.take_of_length_le (by omega), hcl]
      · exact ⟨⟨rfl, rfl, rfl, by simp, fun k hk => absurd hk (Nat.not_lt_zero _)⟩, fun k _ hk => setRow_other w g k _ hk⟩
theorem wpList_copy_into (w : World) {ops : Array Oper} {rest : List Oper} {o : Oper} {a : Act} {Q : Exit → Act → World → Prop} (hgd : o.guard = none) (d s : Operand) (dT sT : TypeId)
    (ho : o.op = .call { callee := .builtin .copy, args := #[d, s], argTypes := #[dT, sT] }) (elem e : TypeId) (sz : Nat) {B N cap g : Nat} {xs : List Value} (hu : P.underlying dT = some (.slice elem)) (hs : (P.info? elem).map (·.size) = some sz)
    (hd : a.eval d = .slice (some ⟨g, 0, none⟩) N cap) (hown : w.ownsRow B e sz (.slice (some ⟨g, 0, none⟩) N cap) N xs) (A : Option Addr) (m c : Nat) (cs : List Value) (hx : a.eval s = .slice A m c) (hm : m ≤ N) (hcl : cs.length = m * sz) (hr : Rd w A cs) (h1 : ∀ v ∈ cs, v.oneCell' = true) (hsz : 0 < sz)
    (h : ∀ w', w'.ownsRow B e sz (.slice (some ⟨g, 0, none⟩) N cap) N (cs ++ xs.drop (m * sz)) → BelS (fun k => k = g) w w' → wpList P ops Q rest (a.put o.dst (goInt m)) w') : wpList P ops Q (o :: rest) a w := by
  refine wpList_plain hgd fun K hK => ?_
  obtain ⟨w', hrun, h2, h3⟩ := run_copy_into (P := P) w dT sT o.type elem e sz hu hs hown A m c cs hm hcl hr h1 hsz
  unfold Oper.wp
  simp [execOp, ho, resolve, invoke, builtin, hd, hx, hrun, Result.andThen]
  exact hK _ _ (h w' h2 h3)
theorem World.ownsRow_room (w : World) {base size : Nat} {e : TypeId} (cs : Array Value) (n m : Nat) (hb : base ≤ w.heap.size) (hm : m ≤ maxLen) (hnm : n ≤ m) (hs : cs.size = m * size) :
    (w.alloc (.cells cs e)).ownsRow base e size (.slice (some ⟨w.heap.size, 0, none⟩) n m) n (cs.toList.take (n * size)) := by
  have h1 : n * size ≤ m * size := Nat.mul_le_mul_right size hnm
  exact ⟨by simp only [List.length_take, Array.length_toList]; omega, .inr ⟨w.heap.size, m, cs, rfl, hb, heap_alloc_new w _, hnm, hm, hs, rfl⟩⟩
/-- make with a length and a greater capacity. -/
theorem wpList_make_room (w : World) {ops : Array Oper} {rest : List Oper} {o : Oper} {a : Act} {Q : Exit → Act → World → Prop}
    (hg : o.guard = none) (l c : Operand) (t : TypeId) (hop : o.op = Op.makeSlice t l c)
    (base : Nat) (e : TypeId) (i : TypeInfo) (z : Value) (size : Nat) (h1 : P.underlying t = some (.slice e)) (h2 : P.info? e = some i) (h3 : i.zero = some z) (h4 : i.size = size)
    (kl kc : IntKind) (L C : Int) (n m : Nat) (hl : a.eval l = .int kl L) (hc : a.eval c = .int kc C) (hL : L = (n : Int)) (hC : C = (m : Int)) (hnm : n ≤ m) (b2 : i.bytes * m ≤ 281474976710656) (b3 : m ≤ maxLen) (b4 : base ≤ w.heap.size)
    (hK : ∀ w' xs, w'.ownsRow base e size (.slice (some ⟨w.heap.size, 0, none⟩) n m) n xs → w.grownBy w' none → wpList P ops Q rest (a.put o.dst (.slice (some ⟨w.heap.size, 0, none⟩) n m)) w') :
    wpList P ops Q (o :: rest) a w := by
  refine wpList_plain hg fun K hK' => ?_
  subst h4
  have h63' : (m : Int) ≤ 9223372036854775807 := by
    have h := b3
    simp [maxLen] at h
    omega
  have hb' : (i.bytes : Int) * (m : Int) ≤ 281474976710656 := by
    have h : ((i.bytes * m : Nat) : Int) ≤ 281474976710656 := by omega
    rwa [Int.natCast_mul] at h
  have hr := run_make (P := P) w t e i z h1 h2 h3 kl kc n m (by omega) (by omega) hb' h63'
  simp only [Int.toNat_natCast] at hr
  subst hL
  subst hC
  unfold Oper.wp
  simp [execOp, hop, hl, hc, hr, Result.andThen]
  exact hK' _ _ (hK _ _ (World.ownsRow_room w _ n m b4 b3 hnm (size_madeCells _ _)) (World.grownBy_alloc w _ none))
end
end Go.Proofs.YtlonpgbapiemcaaGreat
