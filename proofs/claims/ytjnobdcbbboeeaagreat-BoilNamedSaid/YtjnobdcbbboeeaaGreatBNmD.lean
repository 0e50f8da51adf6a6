/- What Delete and Sort leave of an own row, told by the row's block alone; marks in a map where the order is drawn. -/
import Derived.Test.YtjnobdcbbboeeaaGreatBNmP
namespace Go.Proofs.YtjnobdcbbboeeaaGreat
open Go Go.RowKit Go.Shelf Go.Sort
open Go Go.RowKit Go.Shelf Go.Maps
set_option linter.unusedVariables false
set_option linter.unusedSimpArgs false

theorem belS_sortedI {w : World} {g n : Nat} {os : Array Obj} (d : Array Int) : BelS (fun k => k = g) w (grow (putRow (Value.int .i64) (Sort.ahead w n) g 0 d) os) :=
  (BelS.refl _ w).grown (grownBy_sortedI d) (fun k e => by cases e; rfl)
theorem delete2_any (B g cap i : Nat) (l : List Int) (w : World) (hown : w.ownsRow B 3 1 (.slice (some ⟨g, 0, none⟩) l.length cap) l.length (l.map (.int .i64))) (hi : i < l.length) :
    Calls Tryz.prog 21 #[.slice (some ⟨g, 0, none⟩) l.length cap, .int .i64 (i : Int), .int .i64 ((i : Int) + 1)] w fun e w' =>
      e = .returned (.slice (some ⟨g, 0, none⟩) (l.eraseIdx i).length cap) ∧ w'.ownsRow B 3 1 (.slice (some ⟨g, 0, none⟩) (l.eraseIdx i).length cap) (l.eraseIdx i).length ((l.eraseIdx i).map (.int .i64)) ∧ BelS (fun k => k = g) w w' := by
  have hlen : (l.eraseIdx i).length = l.length - 1 := by rw [List.length_eraseIdx, if_pos hi]
  obtain ⟨g', cap', e, h1, h2, h3, h4, h5, h6⟩ := Go.Lib.holds_of_ownsRow hown (by simp)
  simp only [Value.slice.injEq, Option.some.injEq, Addr.mk.injEq, and_true, true_and] at e
  obtain ⟨rfl, rfl⟩ := e
  have K := Any.slices_Delete_int (P := Tryz.prog) del_lays g 0 cap i (i + 1) l w h6 h3 (by unfold maxLen at h4; omega) (by omega) (by omega)
  refine Calls.mono (by exact K) ?_
  rintro e w' ⟨rfl, q, rfl⟩
  rw [hlen]
  rw [show i + 1 - i = 1 by omega]
  refine ⟨rfl, ?_, ?_⟩
  · have := Go.Lib.ownsRow_putRow (q := q) (k := l.length - 1) hown (ys := l.take i ++ l.drop (i + 1) ++ List.replicate 1 0) (by simp; omega) (by omega)
    rw [erase_take l hi] at this
    exact this
  · have := belS_sortedI (w := w) (g := g) (n := q) (os := #[]) (l.take i ++ l.drop (i + 1) ++ List.replicate 1 0).toArray
    rw [grow_empty] at this
    exact this
theorem sortI2_any (B g cap : Nat) (l : List Int) (w : World) (hown : w.ownsRow B 3 1 (.slice (some ⟨g, 0, none⟩) l.length cap) l.length (l.map (.int .i64))) (hl : l.length ≤ 1000000) :
    Calls Tryz.prog 22 #[.slice (some ⟨g, 0, none⟩) l.length cap] w fun e w' =>
      e = .returned (.tuple #[]) ∧ w'.ownsRow B 3 1 (.slice (some ⟨g, 0, none⟩) l.length cap) l.length ((sortI l).map (.int .i64)) ∧ BelS (fun k => k = g) w w' := by
  rcases hown.2 with ⟨h1, -⟩ | ⟨g', cap', cur, e0, hb, hg, hn, hm, hs, ht⟩
  · cases h1
  · cases e0
    rw [Nat.mul_one] at ht
    have K := AnyM.slices_Sort_int (P := Tryz.prog) srt_lays g 0 cap l w (holds_of_blockI hg ht) (Array.getElem?_eq_some_iff.1 hg).1 (by omega)
    refine Calls.mono (by exact K) ?_
    rintro e w' ⟨rfl, n, os, rfl⟩
    exact ⟨rfl, ownsRow_sortedI (sortI_len l) hb hg hn hm hs, belS_sortedI _⟩
theorem MapBl.belS {S : Nat → Prop} {w w' : World} {M n : Nat} {l : List Int} (h : MapBl w M n l) (hx : BelS S w w') (hS : ¬ S M) : MapBl w' M n l := h.heap (hx.2 M h.lt hS)
theorem mark_run {w : World} (b n : Nat) (l : List Int) (hown : MapBl w b n l) (hn : n ≤ 1000000) (y : Int) (hy : 0 ≤ y ∧ y ≤ 1000000) :
    ∃ w', Sem.run Tryz.prog (Instr.mapUpdate 41 (.map (some b)) (.int .i64 y) (.bool true)) w = .ok () w' ∧ MapBl w' b (n + 1) (l ++ [y]) ∧ BelS (fun k => k = b) w w' := by
  obtain ⟨D, h1, h2⟩ := hown
  have hkey : keyOf Tryz.prog 3 (.int .i64 y) = some (.int .i64 y) := keyOf_int_mk Tryz.underlying3 (WalkArith.wf_i64 (by omega))
  obtain ⟨w', hrun, r1, r2⟩ := h1.update keyInt Tryz.underlying41 (by unfold maxLen; omega) hkey (plainElem_bool Tryz.underlying4 true)
  exact ⟨w', hrun, ⟨_, r1, h2.snoc h1.isMap y⟩, (BelS.refl _ w).grown r2 (fun k e => by cases e; rfl)⟩
theorem upon_ok {P : Program} {o : Oper} {a : Act} {K : Act → World → Prop} {Q : Exit → Act → World → Prop} {R : Result Unit} {w' : World} (e : R = .ok () w') (h : K (a.put o.dst undef) w') : Oper.upon P o a K Q (R.andThen fun _ w' => Result.ok Next.skip w') := by
  subst e; exact h
/-- Marking of a number, where the order is drawn. -/
theorem upon_mark_bl {P : Program} (hP : P = Tryz.prog) {w : World} {o : Oper} {a : Act} {K : Act → World → Prop} {Q : Exit → Act → World → Prop} (b n : Nat) (l : List Int) (hown : MapBl w b n l) (hn : n ≤ 1000000) (y : Int) (hy : 0 ≤ y ∧ y ≤ 1000000)
    (hK : ∀ w', MapBl w' b (n + 1) (l ++ [y]) → BelS (fun k => k = b) w w' → K (a.put o.dst undef) w') :
    Oper.upon P o a K Q ((Sem.run P (Instr.mapUpdate 41 (.map (some b)) (.int .i64 y) (.bool true)) w).andThen fun _ w' => Result.ok Next.skip w') := by
  have hh := mark_run b n l hown hn y hy
  rw [← hP] at hh
  obtain ⟨w', e, h1, h2⟩ := hh
  exact upon_ok e (hK w' h1 h2)
end Go.Proofs.YtjnobdcbbboeeaaGreat
