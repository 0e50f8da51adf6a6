/- The plain side of BoilRatios: what is gone, and how clear leaves a row. -/
import Derived.Test.YtjnobdcbbboeeaaBLst
import Derived.Test.YtjnobdcbbboeeaaBRf2
import Derived.Test.YtjnobdcbbboeeaaBBow
import Derived.Test.YtjnobdcbbboeeaaBCmp
import Derived.Laws.CopyOwn
namespace Go.Proofs.Ytjnobdcbbboeeaa
open Go Go.RowKit Go.Shelf
set_option linter.unusedVariables false
set_option linter.unusedSimpArgs false

/-- Which weighings are gone. -/
def gonL (N : Nat) (p : List Int) : List Bool := (List.range N).map fun (i : Nat) => memI (i : Int) p
theorem gonL_len (N : Nat) (p : List Int) : (gonL N p).length = N := by simp [gonL]
theorem gonL_nil (N : Nat) : gonL N [] = List.replicate N false := by
  unfold gonL
  apply List.ext_getElem
  · simp
  · intro i h1 h2
    simp [memI]
theorem gonL_get {N k : Nat} (p : List Int) (h : k < N) : (gonL N p)[k]? = some (memI (k : Int) p) := by simp [gonL, h]
theorem gonL_put {N k : Nat} (p : List Int) (h : k < N) : (gonL N p).set k true = gonL N (p ++ [(k : Int)]) := by
  unfold gonL
  apply List.ext_getElem
  · simp
  · intro i h1 h2
    simp only [List.getElem_set, List.getElem_map, List.getElem_range, memI_snoc]
    by_cases e : k = i
    · subst e; simp
    · rw [if_neg e]
      have : ((i : Int) == (k : Int)) = false := by rw [beq_eq_false_iff_ne]; omega
      rw [this, Bool.or_false]
theorem meas_lt {k N : Nat} (h : k < N) : N - (intOf (Value.int .i64 ((k : Int) + 1))).toNat < N - (intOf (Value.int .i64 (k : Int))).toNat := by simp [intOf]; omega
theorem keepK_all (h : Hs) (l : List Int) : keepK h l h.ws.length = keepW h l := rfl
theorem run_clear_own {P : Program} (w : World) (sT elem e : TypeId) (z : Value) {B n cap g sz : Nat} {zs : List Value} (hu : P.underlying sT = some (.slice elem)) (hz : ∀ w, (zeroValue elem).run P w = .ok z w) (hzs : z.cells.size = sz) (hz1 : ∀ v ∈ z.cells, v.oneCell' = true)
    (hown : w.ownsRow B e sz (.slice (some ⟨g, 0, none⟩) n cap) n zs) (i c : Nat) (hi : i < n) (hsz : 0 < sz) :
    ∃ w', (∀ ty, (Builtin.clear_ #[sT] ty #[.slice (some ⟨g, i * sz, none⟩) (n - i) c]).run P w = .ok (.tuple #[]) w') ∧ BelS (fun k => k = g) w w' ∧
      ∃ ys, ys.length = (n - i) * sz ∧ w'.ownsRow B e sz (.slice (some ⟨g, 0, none⟩) n cap) n (zs.take (i * sz) ++ ys) := by
  rcases hown.2 with ⟨h, _⟩ | ⟨g', cap', cur, h, hb, hg, hnc, hcm, hcs, htake⟩
  · cases h
  · cases h
    obtain ⟨k, hk⟩ : ∃ k, n - i = k + 1 := ⟨n - i - 1, by omega⟩
    have hlen : ((Builtin.zeroCells z.cells (n - i)).toList).length = (n - i) * sz := by rw [Array.length_toList, size_zeroCells, hzs]
    have hone : ∀ v ∈ (Builtin.zeroCells z.cells (n - i)).toList, v.oneCell' = true := by
      intro v hv
      unfold Builtin.zeroCells at hv
      simp only [Array.toList_map, List.mem_map] at hv
      obtain ⟨j, hj, rfl⟩ := hv
      have hlt : j % z.cells.size < z.cells.size := Nat.mod_lt _ (by omega)
      rw [getElem!_pos z.cells _ hlt]
      exact hz1 _ (Array.getElem_mem hlt)
    have hni : i * sz + (n - i) * sz = n * sz := by rw [← Nat.add_mul]; congr 1; omega
    have hNc : n * sz ≤ cap * sz := Nat.mul_le_mul_right sz hnc
    have hfit : i * sz + 0 + ((Builtin.zeroCells z.cells (n - i)).toList).length ≤ cur.size := by rw [hlen]; omega
    have hst := run_storeCells_at P g (i * sz) e _ 0 cur w hg hfit hone
    generalize hvs : (Builtin.zeroCells z.cells (n - i)).toList = vs at *
    refine ⟨w.setRow g (cur.toList.take (i * sz + 0) ++ vs ++ cur.toList.drop (i * sz + 0 + vs.length)).toArray, fun ty => ?_, ?_, vs, hlen, ⟨?_, .inr ⟨g, cap, _, rfl, hb, setRow_heap w g cur _ e (0, 0) hg, hnc, hcm, ?_, ?_⟩⟩⟩
    · rw [hk] at hvs ⊢
      simp [Builtin.clear_, run_underlying hu, hz, hvs, hst]
    · exact ⟨⟨rfl, rfl, rfl, by simp, fun k hk => absurd hk (Nat.not_lt_zero _)⟩, fun k _ hk => setRow_other w g k _ hk⟩
    · rw [List.length_append, List.length_take, hown.1, hlen, Nat.min_eq_left (by omega)]; exact hni
    · simp only [List.size_toArray, List.length_append, List.length_take, List.length_drop, Array.length_toList, hlen, Nat.add_zero]
      omega
    · simp only [Nat.add_zero]
      have hA : (cur.toList.take (i * sz)).length = i * sz := by rw [List.length_take, Array.length_toList]; omega
      have hX : (cur.toList.take (i * sz) ++ vs).length = n * sz := by rw [List.length_append, hA, hlen]; exact hni
      rw [← htake, List.take_take, Nat.min_eq_left (by omega), List.take_left' hX]
/-- What clear leaves of a row of weighings. -/
theorem clear_wg {a w : World} {B n c : Nat} {A : Option Addr} {zs : List Value} (ho : w.ownsRow B 55 5 (.slice A n c) n zs) (hx : Ext a w) (hB : a.heap.size ≤ B) :
    ∃ w', (∀ ty, (Builtin.clear_ #[23] ty #[.slice A n c]).run Try.prog w = .ok (.tuple #[]) w') ∧ Ext a w' ∧ BelS (fun k => (Value.slice A n c).ownBlock = some k) w w' := by
  have hu := Try.underlying23
  have hz : ∀ w, (zeroValue 55).run Try.prog w = .ok (.agg #[.int .i64 0, .int .i64 0, .int .i64 0, .int .i64 0, .int .i64 0]) w := fun w => by kernel_rfl
  rcases Nat.eq_zero_or_pos n with hn | hn
  · subst hn
    refine ⟨w, fun ty => ?_, hx, BelS.refl _ _⟩
    cases A <;> simp [Builtin.clear_, run_underlying hu, hz, Builtin.zeroCells, storeCells]
  · rcases ho.2 with ⟨_, h⟩ | ⟨g, cap, cur, e1, hb, hg, hnc, hcm, hcs, ht⟩
    · omega
    · cases e1
      obtain ⟨w', hcl, hBl, -⟩ := run_clear_own (P := Try.prog) (sz := 5) w 23 55 55 (.agg #[.int .i64 0, .int .i64 0, .int .i64 0, .int .i64 0, .int .i64 0]) hu hz rfl (by intro v hv; simp [Value.cells] at hv; rcases hv with rfl | rfl | rfl | rfl | rfl <;> rfl) ho 0 c hn (by decide)
      simp only [Nat.zero_mul, Nat.sub_zero] at hcl
      have hS : BelS (fun k => (Value.slice (some ⟨g, 0, none⟩) n c).ownBlock = some k) w w' := hBl.mono (fun k _ e => by rw [e]; rfl)
      exact ⟨w', hcl, ((Ext.belS (S := fun k => (Value.slice (some ⟨g, 0, none⟩) n c).ownBlock = some k) hx).trans hS).ext (fun k hk e => by have e2 : some g = some k := e; injection e2 with e3; omega), hS⟩
end Go.Proofs.Ytjnobdcbbboeeaa
