/- append onto a row of one's own, within a region that draws its order: what it keeps. No program stands here. -/
import Derived.Test.YtgnjhaomlbkgcaaBase
namespace Go.Proofs.Ytgnjhaomlbkgcaa
open Go Go.RowKit
set_option linter.unusedVariables false
set_option linter.unusedSimpArgs false

theorem run_append_keep {P : Program} (w : World) (t ty e : TypeId) (size bytes : Nat) (E : ElemOK P t e size bytes) (base : Nat)
    (v : Value) (n : Nat) (xs : List Value) (hown : w.ownsRow base e size v n xs) (ad : Addr) (m c : Nat) (news : List Value) (hl : news.length = m * size) (hr : ∀ j u, news[j]? = some u → w.cell? (ad.add j) = some u)
    (h1 : ∀ u ∈ news, u.oneCell' = true) (hbytes : (n + m) * bytes ≤ 140737488355328) (hbase : base ≤ w.heap.size) (hm : 0 < m) :
    ∃ A' c' w', (Builtin.append_ #[t, t] ty #[v, .slice (some ad) m c]).run P w = .ok (.slice A' (n + m) c') w' ∧ w'.ownsRow base e size (.slice A' (n + m) c') (n + m) (xs ++ news) ∧
      (Ext w w' ∨ ∃ g cap, v = .slice (some ⟨g, 0, none⟩) n cap ∧ A' = some ⟨g, 0, none⟩ ∧ c' = cap ∧ n + m ≤ cap ∧ w.grownBy w' (some g)) := by
  obtain ⟨ht, ⟨i, z, hi, hz, hsize, hby, hzs⟩, hsz, hbp⟩ := E
  have h63 : n + m ≤ maxLen := by
    have := Nat.le_mul_of_pos_right (n + m) hbp
    simp only [maxLen]; omega
  rcases hown.2 with ⟨rfl, rfl⟩ | ⟨g, cap, cur, rfl, hbg, hg, hnc, hcm, hcs, htake⟩
  · obtain ⟨v', w', hrun, h2, h3, h4, h5⟩ := run_append_own_at (P := P) w base t ty e i z size bytes ht hi hz hsize hby hzs hsz _ 0 xs hown ad m c news hl hr h1 h63 hbytes hbase
    obtain ⟨A', c', rfl⟩ := own_slice h2
    exact ⟨A', c', w', hrun, h2, .inl (Ext.grown (Ext.refl w) h3 (fun k e => by cases e))⟩
  · by_cases hroom : n + m ≤ cap
    · obtain ⟨w', hrun, h2, h3⟩ := run_append_fits (P := P) w base t ty e i size ht hi hsize g n cap xs hown ad m c news hl hr h1 hroom
      exact ⟨_, _, w', hrun, h2, .inr ⟨g, cap, rfl, rfl, rfl, hroom, h3⟩⟩
    · obtain ⟨v', w', hrun, h2, h3, h4, h5⟩ := run_append_own_at (P := P) w base t ty e i z size bytes ht hi hz hsize hby hzs hsz _ n xs hown ad m c news hl hr h1 h63 hbytes hbase
      obtain ⟨A', c', rfl⟩ := own_slice h2
      have holds : ∀ j u, xs[j]? = some u → w.cell? ((⟨g, 0, none⟩ : Addr).add j) = some u := hown.cells (g := g) rfl
      have hr2 := run_append_grow (P := P) w t ty e i z ht hi hz ⟨g, 0, none⟩ n cap xs (by rw [hown.1, hsize]) holds ad m c news (by rw [hl, hsize]) hr (by omega) (by simp only [maxLen] at h63; omega) (growslice_fits (by omega) (by rw [hby]; exact hbytes))
      rw [hr2] at hrun
      injection hrun with e1 e2
      refine ⟨A', c', w', by rw [hr2, e1, e2], h2, .inl ?_⟩
      rw [← e2]
      exact Ext.alloc (Ext.drew (Ext.refl w)) _

/-- Block g holds the cells ys from its beginning on. -/
def Rd0 (w : World) (g : Nat) (ys : List Value) : Prop := ∀ j u, ys[j]? = some u → w.cell? ⟨g, j, none⟩ = some u
theorem Rd0.rd {w : World} {g : Nat} {ys : List Value} (h : Rd0 w g ys) : Rd w (some ⟨g, 0, none⟩) ys := .inr ⟨g, 0, rfl, fun j u hu => by rw [Nat.zero_add]; exact h j u hu⟩
theorem Rd0.ext {w w' : World} {g : Nat} {ys : List Value} (h : Rd0 w g ys) (hx : Ext w w') : Rd0 w' g ys := fun j u hu => hx.cell (h j u hu)
/-- What goes on while a row xs of L elements is copied and one element x is laid behind it. -/
def Laid (B : Nat) (e : TypeId) (L : Nat) (xs : List Value) (x : Value) (w w' : World) : Prop :=
  Below B w w' ∧ (∀ v, w.ownsRow B e 1 v L xs → w'.ownsRow B e 1 v L xs) ∧ (∀ g, Rd0 w g (xs ++ [x]) → Rd0 w' g (xs ++ [x])) ∧ (∀ g, Rd0 w g [x] → Rd0 w' g [x])
section
variable {B : Nat} {e : TypeId} {L : Nat} {xs : List Value} {x : Value}
theorem Laid.refl (w : World) : Laid B e L xs x w w := ⟨Below.refl _ _, fun _ h => h, fun _ h => h, fun _ h => h⟩
theorem Laid.trans {a b c : World} (h : Laid B e L xs x a b) (k : Laid B e L xs x b c) : Laid B e L xs x a c :=
  ⟨h.1.trans k.1, fun v hv => k.2.1 v (h.2.1 v hv), fun g hg => k.2.2.1 g (h.2.2.1 g hg), fun g hg => k.2.2.2 g (h.2.2.2 g hg)⟩
theorem Laid.of_ext {w w' : World} (h : Ext w w') (hB : B ≤ w.heap.size) : Laid B e L xs x w w' :=
  ⟨Below.mono h hB, fun _ hv => own_below hv h, fun _ hg => hg.ext h, fun _ hg => hg.ext h⟩
theorem rd0_own {w : World} {g L' cap : Nat} {ys : List Value} (h : w.ownsRow B e 1 (.slice (some ⟨g, 0, none⟩) L' cap) L' ys) : Rd0 w g ys := by
  intro j u hu
  have := h.cells (g := g) rfl j u hu
  rwa [Addr.add_lit, Nat.zero_add] at this
/-- The row that was appended to in its place. -/
theorem Laid.of_grown {w w' : World} {g cap : Nat} (hxs : xs.length = L) (h0 : w.ownsRow B e 1 (.slice (some ⟨g, 0, none⟩) L cap) L xs) (h1 : w'.ownsRow B e 1 (.slice (some ⟨g, 0, none⟩) (L + 1) cap) (L + 1) (xs ++ [x])) (hg : w.grownBy w' (some g)) : Laid B e L xs x w w' := by
  have hBg := (h0.lt g rfl)
  have hne : ∀ k, k < w.heap.size → k ≠ g → w'.heap[k]? = w.heap[k]? := fun k hk hkg => hg.block k hk (fun e => hkg (by cases e; rfl))
  have hr1 := rd0_own h1
  refine ⟨(Below.refl B w).grown hg (by omega) (fun k e => by cases e; exact hBg.1), fun v hv => ?_, fun k hk => ?_, fun k hk => ?_⟩
  · refine ⟨hv.1, ?_⟩
    rcases hv.2 with h | ⟨g2, cap2, cur2, rfl, b1, b2, b3, b4, b5, b6⟩
    · exact .inl h
    · by_cases hgg : g2 = g
      · subst hgg
        rcases h0.2 with ⟨h, _⟩ | ⟨g3, cap3, cur3, e3, c1, c2, c3, c4, c5, c6⟩
        · cases h
        · cases e3
          rw [b2] at c2
          cases c2
          rcases h1.2 with ⟨h, _⟩ | ⟨g4, cap4, cur4, e4, d1, d2, d3, d4, d5, d6⟩
          · cases h
          · cases e4
            refine .inr ⟨g2, cap2, cur4, rfl, b1, d2, b3, b4, by omega, ?_⟩
            have h2 := congrArg (List.take (L * 1)) d6
            rw [List.take_take, List.take_left' (by omega), show min (L * 1) ((L + 1) * 1) = L * 1 by omega] at h2
            exact h2
      · exact .inr ⟨g2, cap2, cur2, rfl, b1, (hne g2 (Array.getElem?_eq_some_iff.1 b2).1 hgg).trans b2, b3, b4, b5, b6⟩
  · by_cases hkg : k = g
    · subst hkg; exact hr1
    · intro j u hu
      have h2 := hk j u hu
      exact (World.cell?_of_block (a := ⟨k, j, none⟩) (hne k (World.block_lt_of_cell? w _ h2) hkg)).trans h2
  · by_cases hkg : k = g
    · subst hkg
      intro j u hu
      match j with
      | 0 =>
        cases hu
        cases L with
        | zero =>
          have : xs = [] := List.eq_nil_of_length_eq_zero hxs
          subst this
          exact hr1 0 x rfl
        | succ L =>
          have h2 := hk 0 x rfl
          have h3 : xs[0]? = some xs[0] := List.getElem?_eq_getElem (by omega)
          have h4 := rd0_own h0 0 _ h3
          rw [h2] at h4
          have h5 := hr1 0 xs[0] (by rw [List.getElem?_append_left (by omega)]; exact h3)
          rw [h5, ← h4]
      | j + 1 => simp at hu
    · intro j u hu
      have h2 := hk j u hu
      exact (World.cell?_of_block (a := ⟨k, j, none⟩) (hne k (World.block_lt_of_cell? w _ h2) hkg)).trans h2
end
end Go.Proofs.Ytgnjhaomlbkgcaa
