/- Rows that are cleared: what stays. -/
import Derived.Test.YtpbpcplboikpcaaGreatG7
import Derived.Test.YtpbpcplboikpcaaGreatFCopy
import Derived.Laws.CopyOwn
namespace Go.Proofs.YtpbpcplboikpcaaGreat
open Go Go.RowKit Go.Shelf
set_option linter.unusedVariables false
set_option linter.unusedSimpArgs false

theorem BelS.below {w w' : World} {g B : Nat} (h : BelS (fun k => k = g) w w') (hB : B ≤ g) (hw : B ≤ w.heap.size) : Below B w w' := by
  obtain ⟨⟨k1, k2, k3, k4, _⟩, k5⟩ := h
  exact ⟨k1, k2, k3, k4, fun i hi => k5 i (by omega) (by omega)⟩
/-- The types of rows that the law of reports clears. -/
def ClrT (T : TypeId) : Prop := T = 68 ∨ T = 124 ∨ T = 3 ∨ T = 53
/-- What lies below B stays; blocks keep their types and sizes, and those of no cleared type what they hold. -/
def CKf (B : Nat) (w w' : World) : Prop := Below B w w' ∧ ∀ (k : Nat) (cs : Array Value) (T : TypeId), w.heap[k]? = some (.cells cs T (0, 0)) → ∃ cs', w'.heap[k]? = some (.cells cs' T (0, 0)) ∧ cs'.size = cs.size ∧ (¬ ClrT T → cs' = cs)
theorem CKf.refl (B : Nat) (w : World) : CKf B w w := ⟨Below.refl _ _, fun _ cs _ h => ⟨cs, h, rfl, fun _ => rfl⟩⟩
theorem CKf.trans {B : Nat} {a b c : World} (h : CKf B a b) (k : CKf B b c) : CKf B a c := by
  refine ⟨h.1.trans k.1, fun i cs T hi => ?_⟩
  obtain ⟨c1, e1, s1, t1⟩ := h.2 i cs T hi
  obtain ⟨c2, e2, s2, t2⟩ := k.2 i c1 T e1
  exact ⟨c2, e2, by omega, fun hn => (t2 hn).trans (t1 hn)⟩
theorem CKf.of_ext {B : Nat} {a b : World} (h : Ext a b) (hB : B ≤ a.heap.size) : CKf B a b :=
  ⟨Below.mono h hB, fun i cs T hi => ⟨cs, (Below.block h i (Array.getElem?_eq_some_iff.1 hi).1).trans hi, rfl, fun _ => rfl⟩⟩
theorem CKf.keep {B : Nat} {w w' : World} (h : CKf B w w') {k : Nat} {cs : Array Value} {T : TypeId} (hk : w.heap[k]? = some (.cells cs T (0, 0))) (hT : ¬ ClrT T) : w'.heap[k]? = some (.cells cs T (0, 0)) := by
  obtain ⟨c1, e1, -, t1⟩ := h.2 k cs T hk
  rw [t1 hT] at e1
  exact e1
theorem CKf.ext {B : Nat} {a w w' : World} (h : CKf B w w') (hx : Ext a w) (hB : a.heap.size ≤ B) : Ext a w' := Below.trans hx (Below.mono h.1 hB)
/-- A row of the call's own, whatever it holds. -/
def OwnX (w : World) (B e sz : Nat) (A : Option Addr) (n c : Nat) : Prop := ∃ zs, w.ownsRow B e sz (.slice A n c) n zs
theorem OwnX.ck {w w' : World} {B B' e sz : Nat} {A : Option Addr} {n c : Nat} (h : OwnX w B e sz A n c) (k : CKf B' w w') : OwnX w' B e sz A n c := by
  obtain ⟨zs, hl, h⟩ := h
  rcases h with ⟨e1, hn⟩ | ⟨g, cap, cur, e1, hb, hg, hnc, hcm, hcs, ht⟩
  · subst hn
    exact ⟨zs, hl, .inl ⟨e1, rfl⟩⟩
  · obtain ⟨cs', e2, s1, -⟩ := k.2 g cur e hg
    refine ⟨cs'.toList.take (n * sz), ?_, .inr ⟨g, cap, cs', e1, hb, e2, hnc, hcm, by omega, rfl⟩⟩
    rw [List.length_take, Array.length_toList, s1, hcs]
    have : n * sz ≤ cap * sz := Nat.mul_le_mul_right sz hnc
    omega
theorem own_ckf {w w' : World} {B B' e sz n : Nat} {v : Value} {xs : List Value} (h : w.ownsRow B e sz v n xs) (k : CKf B' w w') (hT : ¬ ClrT e) : w'.ownsRow B e sz v n xs := by
  refine ⟨h.1, ?_⟩
  rcases h.2 with h | ⟨g, cap, cur, e1, hb, hg, r⟩
  · exact .inl h
  · exact .inr ⟨g, cap, cur, e1, hb, k.keep hg hT, r⟩
theorem clear_own {w : World} {B e sz n c : Nat} {A : Option Addr} (sT : TypeId) (z : Value) (hu : Tryz.prog.underlying sT = some (.slice e)) (hz : ∀ w, (zeroValue e).run Tryz.prog w = .ok z w) (hzs : z.cells.size = sz) (hz1 : ∀ v ∈ z.cells, v.oneCell' = true) (hsz : 0 < sz) (hT : ClrT e)
    (h : OwnX w B e sz A n c) : ∃ w', (∀ ty, (Builtin.clear_ #[sT] ty #[.slice A n c]).run Tryz.prog w = .ok (.tuple #[]) w') ∧ CKf B w w' := by
  obtain ⟨zs, ho⟩ := h
  rcases Nat.eq_zero_or_pos n with hn | hn
  · subst hn
    refine ⟨w, fun ty => ?_, CKf.refl _ _⟩
    cases A <;> simp [Builtin.clear_, run_underlying hu, hz, Builtin.zeroCells, storeCells]
  · rcases ho.2 with ⟨_, h⟩ | ⟨g, cap, cur, e1, hb, hg, hnc, hcm, hcs, ht⟩
    · omega
    · cases e1
      obtain ⟨w', hcl, hB, ys, hys, hO⟩ := run_clear_own (P := Tryz.prog) (sz := sz) w sT e e z hu hz hzs hz1 ho 0 c hn hsz
      simp only [Nat.zero_mul, Nat.sub_zero] at hcl
      refine ⟨w', hcl, ?_, fun k cs T hk => ?_⟩
      · obtain ⟨⟨b1, b2, b3, b4, _⟩, b5⟩ := hB
        exact ⟨b1, b2, b3, b4, fun i hi => b5 i (by have := (Array.getElem?_eq_some_iff.1 hg).1; omega) (by omega)⟩
      · by_cases e2 : k = g
        · subst e2
          rw [hg] at hk
          cases hk
          rcases hO.2 with ⟨h, _⟩ | ⟨g2, cap2, cur2, e2, _, hg2, _, _, hcs2, _⟩
          · cases h
          · cases e2
            exact ⟨cur2, hg2, by omega, fun hn => absurd hT hn⟩
        · exact ⟨cs, hB.heap hk e2, rfl, fun _ => rfl⟩
theorem clear_pair {w : World} {B n c : Nat} {A : Option Addr} (h : OwnX w B 68 2 A n c) : ∃ w', (∀ ty, (Builtin.clear_ #[22] ty #[.slice A n c]).run Tryz.prog w = .ok (.tuple #[]) w') ∧ CKf B w w' :=
  clear_own 22 (.agg #[.int .i64 0, .int .i64 0]) Tryz.underlying22 (fun w => by kernel_rfl) rfl (by intro v hv; simp [Value.cells] at hv; rcases hv with rfl | rfl <;> rfl) (by decide) (.inl rfl) h
theorem clear_blast {w : World} {B n c : Nat} {A : Option Addr} (h : OwnX w B 124 3 A n c) : ∃ w', (∀ ty, (Builtin.clear_ #[25] ty #[.slice A n c]).run Tryz.prog w = .ok (.tuple #[]) w') ∧ CKf B w w' :=
  clear_own 25 (.agg #[.int .i64 0, .int .i64 0, .int .i64 0]) Tryz.underlying25 (fun w => by kernel_rfl) rfl (by intro v hv; simp [Value.cells] at hv; rcases hv with rfl | rfl | rfl <;> rfl) (by decide) (.inr (.inl rfl)) h
theorem clear_int {w : World} {B n c : Nat} {A : Option Addr} (h : OwnX w B 3 1 A n c) : ∃ w', (∀ ty, (Builtin.clear_ #[42] ty #[.slice A n c]).run Tryz.prog w = .ok (.tuple #[]) w') ∧ CKf B w w' :=
  clear_own 42 (.int .i64 0) Tryz.underlying42 (fun w => by kernel_rfl) rfl (by intro v hv; simp [Value.cells] at hv; subst hv; rfl) (by decide) (.inr (.inr (.inl rfl))) h
theorem clear_rep {w : World} {B n c : Nat} {A : Option Addr} (h : OwnX w B 53 2 A n c) : ∃ w', (∀ ty, (Builtin.clear_ #[60] ty #[.slice A n c]).run Tryz.prog w = .ok (.tuple #[]) w') ∧ CKf B w w' :=
  clear_own 60 (.agg #[.int .i64 0, .bool false]) Tryz.underlying60 (fun w => by kernel_rfl) rfl (by intro v hv; simp [Value.cells] at hv; rcases hv with rfl | rfl <;> rfl) (by decide) (.inr (.inr (.inr rfl))) h
end Go.Proofs.YtpbpcplboikpcaaGreat
