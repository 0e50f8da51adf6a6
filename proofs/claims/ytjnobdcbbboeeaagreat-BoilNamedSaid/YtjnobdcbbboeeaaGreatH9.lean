/- What smallest's closure tells, plainly: the set that goes along with the list. No program stands here. append onto a row of one's own, within a region that draws its order: what it keeps. No program stands here. append onto a row that others may share, within a region that draws its order: what it keeps. No program stands here. The walk of more, the closure of boil's smallest. Printed by my gen_bmore.py. The walk of more, the closure of boil's smallest, for any number that is left. Printed by my gen_bmors.py. The watcher of boil.Fewest. The walk of boil's smallest. Printed by my gen_bsma.py. The walk of boil.Fewest. -/
import Derived.Test.YtjnobdcbbboeeaaGreatH7
import Derived.Test.YtjnobdcbbboeeaaGreatH3
import Derived.Test.YtjnobdcbbboeeaaGreatH1
import Derived.Test.YtjnobdcbbboeeaaGreatH2
import Derived.Test.YtjnobdcbbboeeaaGreatH5
import Derived.Test.YtjnobdcbbboeeaaGreatH8
namespace Go.Proofs.YtjnobdcbbboeeaaGreat
open Go Go.RowKit
set_option linter.unusedVariables false
set_option linter.unusedSimpArgs false

/-- The set of a list. -/
def inSet (l : List Int) : Nat → Bool := fun b => memI (b : Int) l
theorem inSet_nil : inSet [] = fun _ => false := by
  funext b; unfold inSet; simp [memI]
theorem inSet_app (l : List Int) (n : Nat) : updB (inSet l) n true = inSet (l ++ [(n : Int)]) := by
  funext b
  unfold updB inSet
  by_cases e : b = n
  · subst e
    rw [if_pos rfl]
    exact (mem_memI.2 (by simp)).symm
  · rw [if_neg e]
    have : (((b : Int) ∈ l ++ [(n : Int)]) ↔ (b : Int) ∈ l) := by simp; omega
    rw [Bool.eq_iff_iff, mem_memI, mem_memI, this]
theorem cov_cls (h : Hs) (l : List Int) : covH h l = !clsH h (inSet l) := rfl
/-- What is told, and whether one goes on, where the watcher always says b. -/
def told (b : Bool) (L : List (List Int)) : List (List Int) := if b then L else L.take 1
def goOn (b : Bool) (L : List (List Int)) : Bool := b || L.isEmpty
theorem told_app (b : Bool) (L M : List (List Int)) : told b (L ++ M) = if goOn b L = true then told b L ++ told b M else told b L := by
  unfold told goOn
  cases b
  · cases L <;> simp
  · simp
theorem goOn_app (b : Bool) (L M : List (List Int)) : goOn b (L ++ M) = (goOn b L && goOn b M) := by
  unfold goOn
  cases b
  · cases L <;> simp
  · simp
theorem told_nil (b : Bool) : told b [] = [] := by unfold told; cases b <;> rfl
theorem goOn_nil (b : Bool) : goOn b [] = true := by unfold goOn; cases b <;> rfl
theorem told_one (b : Bool) (l : List Int) : told b [l] = [l] := by unfold told; cases b <;> rfl
theorem goOn_one (b : Bool) (l : List Int) : goOn b [l] = b := by unfold goOn; cases b <;> rfl
end Go.Proofs.YtjnobdcbbboeeaaGreat

namespace Go.Proofs.YtjnobdcbbboeeaaGreat
open Go Go.RowKit
set_option linter.unusedVariables false
set_option linter.unusedSimpArgs false

theorem run_append_keep {P : Program} (w : World) (t ty e : TypeId) (size bytes : Nat) (E : ElemOK P t e size bytes) (base : Nat)
    (v : Value) (n : Nat) (xs : List Value) (hown : w.ownsRow base e size v n xs) (ad : Addr) (m c : Nat) (news : List Value) (hl : news.length = m * size) (hr : ∀ j u, news[j]? = some u → w.cell? (ad.add j) = some u)
    (h1 : ∀ u ∈ news, u.oneCell' = true) (hbytes : (n + m) * bytes ≤ 140737488355328) (hbase : base ≤ w.heap.size) (hm : 0 < m) :
    ∃ A' c' w', (Builtin.append_ #[t, t] ty #[v, .slice (some ad) m c]).run P w = .ok (.slice A' (n + m) c') w' ∧ w'.ownsRow base e size (.slice A' (n + m) c') (n + m) (xs ++ news) ∧
      (Ext w w' ∨ ∃ g cap, v = .slice (some ⟨g, 0, none⟩) n cap ∧ A' = some ⟨g, 0, none⟩ ∧ c' = cap ∧ n + m ≤ cap ∧ w.grownBy w' (some g)) := by
  obtain ⟨ht, ⟨i, z, hi, hz, hsize, hby, hzs⟩, hsz, hbp⟩ := E
  have h63 : n + m ≤ maxLen := by
    have := Nat.le_mul_of_pos_right (n + m) hbp
    simp only [maxLen]; omega
  rcases hown.2 with ⟨rfl, rfl⟩ | ⟨g, cap, cur, rfl, hbg, hg, hnc, hcm, hcs, htake⟩
  · obtain ⟨v', w', hrun, h2, h3, h4, h5⟩ := run_append_own_at (P := P) w base t ty e i z size bytes ht hi hz hsize hby hzs hsz _ 0 xs hown ad m c news hl hr h1 h63 hbytes hbase
    obtain ⟨A', c', rfl⟩ := own_slice h2
    exact ⟨A', c', w', hrun, h2, .inl (Ext.grown (Ext.refl w) h3 (fun k e => by cases e))⟩
  · by_cases hroom : n + m ≤ cap
    · obtain ⟨w', hrun, h2, h3⟩ := run_append_fits (P := P) w base t ty e i size ht hi hsize g n cap xs hown ad m c news hl hr h1 hroom
      exact ⟨_, _, w', hrun, h2, .inr ⟨g, cap, rfl, rfl, rfl, hroom, h3⟩⟩
    · obtain ⟨v', w', hrun, h2, h3, h4, h5⟩ := run_append_own_at (P := P) w base t ty e i z size bytes ht hi hz hsize hby hzs hsz _ n xs hown ad m c news hl hr h1 h63 hbytes hbase
      obtain ⟨A', c', rfl⟩ := own_slice h2
      have holds : ∀ j u, xs[j]? = some u → w.cell? ((⟨g, 0, none⟩ : Addr).add j) = some u := hown.cells (g := g) rfl
      have hr2 := run_append_grow (P := P) w t ty e i z ht hi hz ⟨g, 0, none⟩ n cap xs (by rw [hown.1, hsize]) holds ad m c news (by rw [hl, hsize]) hr (by omega) (by simp only [maxLen] at h63; omega) (growslice_fits (by omega) (by rw [hby]; exact hbytes))
      rw [hr2] at hrun
      injection hrun with e1 e2
      refine ⟨A', c', w', by rw [hr2, e1, e2], h2, .inl ?_⟩
      rw [← e2]
      exact Ext.alloc (Ext.drew (Ext.refl w)) _

/-- Block g holds the cells ys from its beginning on. -/
def Rd0 (w : World) (g : Nat) (ys : List Value) : Prop := ∀ j u, ys[j]? = some u → w.cell? ⟨g, j, none⟩ = some u
theorem Rd0.rd {w : World} {g : Nat} {ys : List Value} (h : Rd0 w g ys) : Rd w (some ⟨g, 0, none⟩) ys := .inr ⟨g, 0, rfl, fun j u hu => by rw [Nat.zero_add]; exact h j u hu⟩
theorem Rd0.ext {w w' : World} {g : Nat} {ys : List Value} (h : Rd0 w g ys) (hx : Ext w w') : Rd0 w' g ys := fun j u hu => hx.cell (h j u hu)
/-- What goes on while a row xs of L elements is copied and one element x is laid behind it. -/
def Laid (B : Nat) (e : TypeId) (L : Nat) (xs : List Value) (x : Value) (w w' : World) : Prop :=
  Below B w w' ∧ (∀ v, w.ownsRow B e 1 v L xs → w'.ownsRow B e 1 v L xs) ∧ (∀ g, Rd0 w g (xs ++ [x]) → Rd0 w' g (xs ++ [x])) ∧ (∀ g, Rd0 w g [x] → Rd0 w' g [x])
section
variable {B : Nat} {e : TypeId} {L : Nat} {xs : List Value} {x : Value}
theorem Laid.refl (w : World) : Laid B e L xs x w w := ⟨Below.refl _ _, fun _ h => h, fun _ h => h, fun _ h => h⟩
theorem Laid.trans {a b c : World} (h : Laid B e L xs x a b) (k : Laid B e L xs x b c) : Laid B e L xs x a c :=
  ⟨h.1.trans k.1, fun v hv => k.2.1 v (h.2.1 v hv), fun g hg => k.2.2.1 g (h.2.2.1 g hg), fun g hg => k.2.2.2 g (h.2.2.2 g hg)⟩
theorem Laid.of_ext {w w' : World} (h : Ext w w') (hB : B ≤ w.heap.size) : Laid B e L xs x w w' :=
  ⟨Below.mono h hB, fun _ hv => own_below hv h, fun _ hg => hg.ext h, fun _ hg => hg.ext h⟩
theorem rd0_own {w : World} {g L' cap : Nat} {ys : List Value} (h : w.ownsRow B e 1 (.slice (some ⟨g, 0, none⟩) L' cap) L' ys) : Rd0 w g ys := by
  intro j u hu
  have := h.cells (g := g) rfl j u hu
  rwa [Addr.add_lit, Nat.zero_add] at this
/-- The row that was appended to in its place. -/
theorem Laid.of_grown {w w' : World} {g cap : Nat} (hxs : xs.length = L) (h0 : w.ownsRow B e 1 (.slice (some ⟨g, 0, none⟩) L cap) L xs) (h1 : w'.ownsRow B e 1 (.slice (some ⟨g, 0, none⟩) (L + 1) cap) (L + 1) (xs ++ [x])) (hg : w.grownBy w' (some g)) : Laid B e L xs x w w' := by
  have hBg := (h0.lt g rfl)
  have hne : ∀ k, k < w.heap.size → k ≠ g → w'.heap[k]? = w.heap[k]? := fun k hk hkg => hg.block k hk (fun e => hkg (by cases e; rfl))
  have hr1 := rd0_own h1
  refine ⟨(Below.refl B w).grown hg (by omega) (fun k e => by cases e; exact hBg.1), fun v hv => ?_, fun k hk => ?_, fun k hk => ?_⟩
  · refine ⟨hv.1, ?_⟩
    rcases hv.2 with h | ⟨g2, cap2, cur2, rfl, b1, b2, b3, b4, b5, b6⟩
    · exact .inl h
    · by_cases hgg : g2 = g
      · subst hgg
        rcases h0.2 with ⟨h, _⟩ | ⟨g3, cap3, cur3, e3, c1, c2, c3, c4, c5, c6⟩
        · cases h
        · cases e3
          rw [b2] at c2
          cases c2
          rcases h1.2 with ⟨h, _⟩ | ⟨g4, cap4, cur4, e4, d1, d2, d3, d4, d5, d6⟩
          · cases h
          · cases e4
            refine .inr ⟨g2, cap2, cur4, rfl, b1, d2, b3, b4, by omega, ?_⟩
            have h2 := congrArg (List.take (L * 1)) d6
            rw [List.take_take, List.take_left' (by omega), show min (L * 1) ((L + 1) * 1) = L * 1 by omega] at h2
            exact h2
      · exact .inr ⟨g2, cap2, cur2, rfl, b1, (hne g2 (Array.getElem?_eq_some_iff.1 b2).1 hgg).trans b2, b3, b4, b5, b6⟩
  · by_cases hkg : k = g
    · subst hkg; exact hr1
    · intro j u hu
      have h2 := hk j u hu
      exact (World.cell?_of_block (a := ⟨k, j, none⟩) (hne k (World.block_lt_of_cell? w _ h2) hkg)).trans h2
  · by_cases hkg : k = g
    · subst hkg
      intro j u hu
      match j with
      | 0 =>
        cases hu
        cases L with
        | zero =>
          have : xs = [] := List.eq_nil_of_length_eq_zero hxs
          subst this
          exact hr1 0 x rfl
        | succ L =>
          have h2 := hk 0 x rfl
          have h3 : xs[0]? = some xs[0] := List.getElem?_eq_getElem (by omega)
          have h4 := rd0_own h0 0 _ h3
          rw [h2] at h4
          have h5 := hr1 0 xs[0] (by rw [List.getElem?_append_left (by omega)]; exact h3)
          rw [h5, ← h4]
      | j + 1 => simp at hu
    · intro j u hu
      have h2 := hk j u hu
      exact (World.cell?_of_block (a := ⟨k, j, none⟩) (hne k (World.block_lt_of_cell? w _ h2) hkg)).trans h2
end
end Go.Proofs.YtjnobdcbbboeeaaGreat

namespace Go.Proofs.YtjnobdcbbboeeaaGreat
open Go Go.RowKit
set_option linter.unusedVariables false
set_option linter.unusedSimpArgs false

/-- What goes on while one element x is laid behind a row xs of L elements, in whose block alone anything changes. -/
def LaidO (Q : Nat → Prop) (B : Nat) (e : TypeId) (L : Nat) (xs : List Value) (x : Value) (w w' : World) : Prop :=
  BelS Q w w' ∧ (∀ v, w.ownsRow B e 1 v L xs → w'.ownsRow B e 1 v L xs) ∧ (∀ v, w.ownsRow B e 1 v (L + 1) (xs ++ [x]) → w'.ownsRow B e 1 v (L + 1) (xs ++ [x])) ∧ (∀ g, B ≤ g → Rd0 w g [x] → Rd0 w' g [x])
section
variable {Q : Nat → Prop} {B : Nat} {e : TypeId} {L : Nat} {xs : List Value} {x : Value}
theorem LaidO.refl (w : World) : LaidO Q B e L xs x w w := ⟨BelS.refl _ _, fun _ h => h, fun _ h => h, fun _ _ h => h⟩
theorem LaidO.trans {a b c : World} (h : LaidO Q B e L xs x a b) (k : LaidO Q B e L xs x b c) : LaidO Q B e L xs x a c :=
  ⟨h.1.trans k.1, fun v hv => k.2.1 v (h.2.1 v hv), fun v hv => k.2.2.1 v (h.2.2.1 v hv), fun g h0 hg => k.2.2.2 g h0 (h.2.2.2 g h0 hg)⟩
theorem LaidO.of_ext {w w' : World} (h : Ext w w') : LaidO Q B e L xs x w w' :=
  ⟨Ext.belS h, fun _ hv => own_below hv h, fun _ hv => own_below hv h, fun _ _ hg => hg.ext h⟩
theorem own_take {w : World} {g cap n : Nat} {xs ys : List Value} {s : Nat} (h : w.ownsRow B e 1 (.slice (some ⟨g, 0, none⟩) n cap) n (xs ++ ys)) (hs : xs.length = s) (hn : s ≤ n) : w.ownsRow B e 1 (.slice (some ⟨g, 0, none⟩) s cap) s xs := by
  refine ⟨by omega, ?_⟩
  rcases h.2 with ⟨h, _⟩ | ⟨g2, cap2, cur2, e2, b1, b2, b3, b4, b5, b6⟩
  · cases h
  · cases e2
    refine .inr ⟨g, cap, cur2, rfl, b1, b2, by omega, b4, b5, ?_⟩
    have h2 := congrArg (List.take (s * 1)) b6
    rw [List.take_take, List.take_left' (by omega), show min (s * 1) (n * 1) = s * 1 by omega] at h2
    exact h2
/-- The row that was appended to in its place. -/
theorem LaidO.of_grown {w w' : World} {g cap : Nat} (hQ : Q g) (hxs : xs.length = L) (h0 : w.ownsRow B e 1 (.slice (some ⟨g, 0, none⟩) L cap) L xs) (h1 : w'.ownsRow B e 1 (.slice (some ⟨g, 0, none⟩) (L + 1) cap) (L + 1) (xs ++ [x])) (hg : w.grownBy w' (some g)) : LaidO Q B e L xs x w w' := by
  have hne : ∀ k, k < w.heap.size → k ≠ g → w'.heap[k]? = w.heap[k]? := fun k hk hkg => hg.block k hk (fun e => hkg (by cases e; rfl))
  have hr1 := rd0_own h1
  have key : ∀ (n : Nat) (ys : List Value), ys.length = n → n ≤ L + 1 → ys = (xs ++ [x]).take n → ∀ v, w.ownsRow B e 1 v n ys → w'.ownsRow B e 1 v n ys := by
    intro n ys hy hn hyt v hv
    refine ⟨hv.1, ?_⟩
    rcases hv.2 with h | ⟨g2, cap2, cur2, rfl, b1, b2, b3, b4, b5, b6⟩
    · exact .inl h
    · by_cases hgg : g2 = g
      · subst hgg
        rcases h0.2 with ⟨h, _⟩ | ⟨g3, cap3, cur3, e3, c1, c2, c3, c4, c5, c6⟩
        · cases h
        · cases e3
          rw [b2] at c2
          cases c2
          rcases h1.2 with ⟨h, _⟩ | ⟨g4, cap4, cur4, e4, d1, d2, d3, d4, d5, d6⟩
          · cases h
          · cases e4
            refine .inr ⟨g2, cap2, cur4, rfl, b1, d2, b3, b4, by omega, ?_⟩
            have h2 := congrArg (List.take (n * 1)) d6
            rw [List.take_take, show min (n * 1) ((L + 1) * 1) = n * 1 by omega] at h2
            rw [h2, hyt, Nat.mul_one]
      · exact .inr ⟨g2, cap2, cur2, rfl, b1, (hne g2 (Array.getElem?_eq_some_iff.1 b2).1 hgg).trans b2, b3, b4, b5, b6⟩
  refine ⟨(BelS.refl _ w).grown hg (fun k e => by cases e; exact hQ), key L xs hxs (by omega) (List.take_left' hxs).symm, key (L + 1) (xs ++ [x]) (by simp [hxs]) (Nat.le_refl _) (by rw [List.take_of_length_le (by simp [hxs])]), fun k hBk hk => ?_⟩
  by_cases hkg : k = g
  · subst hkg
    intro j u hu
    match j with
    | 0 =>
      cases hu
      cases L with
      | zero =>
        have : xs = [] := List.eq_nil_of_length_eq_zero hxs
        subst this
        exact hr1 0 x rfl
      | succ L =>
        have h2 := hk 0 x rfl
        have h3 : xs[0]? = some xs[0] := List.getElem?_eq_getElem (by omega)
        have h4 := rd0_own h0 0 _ h3
        rw [h2] at h4
        have h5 := hr1 0 xs[0] (by rw [List.getElem?_append_left (by omega)]; exact h3)
        rw [h5, ← h4]
    | j + 1 => simp at hu
  · intro j u hu
    have h2 := hk j u hu
    exact (World.cell?_of_block (a := ⟨k, j, none⟩) (hne k (World.block_lt_of_cell? w _ h2) hkg)).trans h2
end
theorem run_append_keep2 {P : Program} (w : World) (t ty e : TypeId) (size bytes : Nat) (E : ElemOK P t e size bytes) (base : Nat)
    (v : Value) (n : Nat) (xs : List Value) (hown : w.ownsRow base e size v n xs) (ad : Addr) (m c : Nat) (news : List Value) (hl : news.length = m * size) (hr : ∀ j u, news[j]? = some u → w.cell? (ad.add j) = some u)
    (h1 : ∀ u ∈ news, u.oneCell' = true) (hbytes : (n + m) * bytes ≤ 140737488355328) (hbase : base ≤ w.heap.size) (hm : 0 < m) :
    ∃ A' c' w', (Builtin.append_ #[t, t] ty #[v, .slice (some ad) m c]).run P w = .ok (.slice A' (n + m) c') w' ∧ w'.ownsRow base e size (.slice A' (n + m) c') (n + m) (xs ++ news) ∧
      ((Ext w w' ∧ ∀ a, A' = some a → w.heap.size ≤ a.block) ∨ ∃ g cap, v = .slice (some ⟨g, 0, none⟩) n cap ∧ A' = some ⟨g, 0, none⟩ ∧ c' = cap ∧ n + m ≤ cap ∧ w.grownBy w' (some g)) := by
  obtain ⟨ht, ⟨i, z, hi, hz, hsize, hby, hzs⟩, hsz, hbp⟩ := E
  have h63 : n + m ≤ maxLen := by
    have := Nat.le_mul_of_pos_right (n + m) hbp
    simp only [maxLen]; omega
  rcases hown.2 with ⟨rfl, rfl⟩ | ⟨g, cap, cur, rfl, hbg, hg, hnc, hcm, hcs, htake⟩
  · have hx0 : xs = [] := List.eq_nil_of_length_eq_zero (by rw [hown.1]; simp)
    subst hx0
    obtain ⟨v', w', hrun, h2, h3, h4, h5⟩ := run_append_own_at (P := P) w w.heap.size t ty e i z size bytes ht hi hz hsize hby hzs hsz _ 0 [] (World.ownsRow_nil w w.heap.size e size) ad m c news hl hr h1 h63 hbytes (Nat.le_refl _)
    obtain ⟨A', c', rfl⟩ := own_slice h2
    exact ⟨A', c', w', hrun, own_base h2 hbase, .inl ⟨Ext.grown (Ext.refl w) h3 (fun k e => by cases e), fun a ha => (own_block_lt h2 a ha).1⟩⟩
  · by_cases hroom : n + m ≤ cap
    · obtain ⟨w', hrun, h2, h3⟩ := run_append_fits (P := P) w base t ty e i size ht hi hsize g n cap xs hown ad m c news hl hr h1 hroom
      exact ⟨_, _, w', hrun, h2, .inr ⟨g, cap, rfl, rfl, rfl, hroom, h3⟩⟩
    · obtain ⟨v', w', hrun, h2, h3, h4, h5⟩ := run_append_own_at (P := P) w base t ty e i z size bytes ht hi hz hsize hby hzs hsz _ n xs hown ad m c news hl hr h1 h63 hbytes hbase
      obtain ⟨A', c', rfl⟩ := own_slice h2
      have holds : ∀ j u, xs[j]? = some u → w.cell? ((⟨g, 0, none⟩ : Addr).add j) = some u := hown.cells (g := g) rfl
      have hr2 := run_append_grow (P := P) w t ty e i z ht hi hz ⟨g, 0, none⟩ n cap xs (by rw [hown.1, hsize]) holds ad m c news (by rw [hl, hsize]) hr (by omega) (by simp only [maxLen] at h63; omega) (growslice_fits (by omega) (by rw [hby]; exact hbytes))
      rw [hr2] at hrun
      injection hrun with e1 e2
      injection e1 with e3 e4 e5
      refine ⟨A', c', w', by rw [hr2, e2, e3, e5], h2, .inl ⟨?_, fun a ha => ?_⟩⟩
      · rw [← e2]
        exact Ext.alloc (Ext.drew (Ext.refl w)) _
      · rw [← e3] at ha
        cases ha
        exact Nat.le_refl _
theorem own_someK {w : World} {base e size n c : Nat} {A : Option Addr} {xs : List Value} (h : w.ownsRow base e size (.slice A (n + 1) c) (n + 1) xs) : ∃ g, A = some ⟨g, 0, none⟩ := by
  rcases h.2 with ⟨h, h2⟩ | ⟨g, cap, cur, h, _⟩
  · omega
  · cases h; exact ⟨g, rfl⟩
theorem exec_appendK {P : Program} (w : World) {o : Oper} (ρ : Operand → Value) (s x : Operand) (t : TypeId) (ho : o.op = .call { callee := .builtin .append, args := #[s, x], argTypes := #[t, t] }) (v vx : Value) (hs : ρ s = v) (hx : ρ x = vx) (v' : Value) (w' : World)
    (hrun : (Builtin.append_ #[t, t] o.type #[v, vx]).run P w = .ok v' w') : (execOp ρ o).run P w = .ok (.value v') w' := by
  unfold execOp
  simp only [ho, resolve, invoke, builtin, Sem.run_bind, Sem.run_pure, Result.andThen_ok, List.map_toArray, List.map_cons, List.map_nil, hs, hx, hrun]
end Go.Proofs.YtjnobdcbbboeeaaGreat

namespace Go.Proofs.YtjnobdcbbboeeaaGreat
open Go Go.RowKit Go.Shelf
set_option linter.unusedVariables false
set_option linter.unusedSimpArgs false

/-- A watcher that always says b, changes the blocks of S, and of which J tells what it has been told. -/
structure WatchR (B0 g : Nat) (lb : Array Value) (b : Bool) (S : Nat → Prop) (J : List (List Int) → World → Prop) : Prop where
  enters : ∀ args W, (callFunc g args).run Tryz.prog W = .ok (.enter g args) W
  call : ∀ (pre : List (List Int)) (l : List Int) (B : Nat) (A : Option Addr) (c : Nat) (W : World), J pre W → l.length ≤ 14 → (∀ x ∈ l, 0 ≤ x ∧ x < 14) → B0 ≤ B → W.ownsRow B 3 1 (.slice A l.length c) l.length (l.map (.int .i64)) →
    Calls Tryz.prog g (#[.slice A l.length c] ++ lb) W fun e W' => e = .returned (.bool b) ∧ J (pre ++ [l]) W' ∧ BelS S W W'
  ext : ∀ {pre : List (List Int)} {W W' : World}, J pre W → Ext W W' → J pre W'

abbrev moreB (Bd Bw Bm : Nat) : Array Value := #[.pointer (some ⟨Bd, 0, none⟩), .pointer (some ⟨Bw, 0, none⟩), .pointer (some ⟨Bm, 0, none⟩)]
set_option maxRecDepth 100000 in
set_option maxHeartbeats 4000000 in
theorem more_zero (h : Hs) (D Bd Bw Bm : Nat) (A : Option Addr) (c : Nat) (B0 g : Nat) (lb : Array Value) (b : Bool) (S : Nat → Prop) (J : List (List Int) → World → Prop) (hn : h.ws.length ≤ 14) (hW : WatchR B0 g lb b S J)
    (l : List Int) (from_ : Nat) (Al : Option Addr) (cl : Nat) (W : World) (pre : List (List Int)) (hl : l.length ≤ 14) (hlx : ∀ x ∈ l, 0 ≤ x ∧ x < 14) (hB0 : B0 ≤ W.heap.size) (hJ : J pre W) (hd : Dsk W D A c h (claG h)) (hA : Ints W Al l)
    (kd : W.cell? ⟨Bd, 0, none⟩ = some (.pointer (some ⟨D, 0, none⟩))) (kw : W.cell? ⟨Bw, 0, none⟩ = some (.func (.func g) #[] lb)) :
    Calls Tryz.prog 63 (#[.agg (bcell14 (inSet l)).toArray, .slice Al l.length cl, .int .i64 (from_ : Int), .int .i64 0] ++ moreB Bd Bw Bm) W fun e W' =>
      e = .returned (.bool (goOn b (tellL (covH h) h.ws.length 0 l from_))) ∧ J (pre ++ told b (tellL (covH h) h.ws.length 0 l from_)) W' ∧ BelS S W W' := by
  have HC : Hid (tellL (covH h) h.ws.length 0 l from_ = if clsH h (inSet l) = true then [] else [l]) := by
    unfold Hid tellL
    rw [cov_cls]
    cases clsH h (inSet l) <;> rfl
  obtain ⟨L, hL⟩ : ∃ L, tellL (covH h) h.ws.length 0 l from_ = L := ⟨_, rfl⟩
  rw [hL] at HC ⊢
  clear hL
  have HLX := hid hlx
  clear hlx
  obtain ⟨W1, hW1⟩ : ∃ W1, W.alloc (.cells (bcell14 (inSet l)).toArray 90) = W1 := ⟨_, rfl⟩
  have hx1 : Ext W W1 := by rw [← hW1]; exact (Ext.refl _).alloc _
  have hbb : BB W1 W.heap.size (inSet l) := by rw [← hW1]; exact heap_alloc_new W _
  simp only [moreB, List.append_toArray, List.cons_append, List.nil_append]
  go_enter Tryz.func63, Tryz.ntmps63
  go_wp2_with fail
  try rw [hW1]
  clear hW1
  have FX : Hid (∀ w', Ext W1 w' → w'.cell? ⟨Bd, 0, none⟩ = some (.pointer (some ⟨D, 0, none⟩)) ∧ w'.cell? ⟨Bw, 0, none⟩ = some (.func (.func g) #[] lb) ∧ BB w' W.heap.size (inSet l)) := fun w' hx => ⟨(hx1.trans hx).cell kd, (hx1.trans hx).cell kw, hbb.ext hx⟩
  have hd1 := hd.ext hx1
  by_cases hc : clsH h (inSet l) = true
  · have HQ : Hid (clsH h (inSet l) = true) := hc
    have hLn : L = [] := by rw [HC.out, if_pos hc]
    subst hLn
    clear hc
    refine wp_region_shut Ext (fun w' => Ext W1 w') (fun | 2 => some (fun v _ => v = .bool (clsH h (inSet l))) | _ => none) (by kernel_rfl) (by kernel_rfl) (fun _ _ h k => h.trans k) ?hT (Ext.drew (Ext.refl W1)) ?_
    case hT =>
      intro i R hR
      match i, hR with
      | 2, hR => cases hR; exact fun _ _ _ h _ => h
    refine wM_val ?ua0 rfl rfl Ext.refl (fun w' hD => ?ha0) (fun pha0 => ?na0)
    case ha0 =>
      obtain ⟨d0, d1, d2⟩ := FX.out w' hD.1; have e0 := d2.cell (b := 0) (by decide); have e1 := d2.cell (b := 1) (by decide); have e2 := d2.cell (b := 2) (by decide); have e3 := d2.cell (b := 3) (by decide); have e4 := d2.cell (b := 4) (by decide); have e5 := d2.cell (b := 5) (by decide); have e6 := d2.cell (b := 6) (by decide); have e7 := d2.cell (b := 7) (by decide); have e8 := d2.cell (b := 8) (by decide); have e9 := d2.cell (b := 9) (by decide); have e10 := d2.cell (b := 10) (by decide); have e11 := d2.cell (b := 11) (by decide); have e12 := d2.cell (b := 12) (by decide); have e13 := d2.cell (b := 13) (by decide); clear d2
      go_simp; rfl
    simp only [Act.put, List.setIfInBounds_toArray, List.set_cons_succ, List.set_cons_zero, Nat.reduceAdd]
    refine wM_val ?ua1 rfl rfl Ext.refl (fun w' hD => ?ha1) (fun pha1 => ?na1)
    case ha1 =>
      obtain ⟨d0, d1, d2⟩ := FX.out w' hD.1; have e0 := d2.cell (b := 0) (by decide); have e1 := d2.cell (b := 1) (by decide); have e2 := d2.cell (b := 2) (by decide); have e3 := d2.cell (b := 3) (by decide); have e4 := d2.cell (b := 4) (by decide); have e5 := d2.cell (b := 5) (by decide); have e6 := d2.cell (b := 6) (by decide); have e7 := d2.cell (b := 7) (by decide); have e8 := d2.cell (b := 8) (by decide); have e9 := d2.cell (b := 9) (by decide); have e10 := d2.cell (b := 10) (by decide); have e11 := d2.cell (b := 11) (by decide); have e12 := d2.cell (b := 12) (by decide); have e13 := d2.cell (b := 13) (by decide); clear d2
      go_simp; rfl
    simp only [Act.put, List.setIfInBounds_toArray, List.set_cons_succ, List.set_cons_zero, Nat.reduceAdd]
    refine wM_op _ rfl rfl (opens_call ?fa2 ?ga2 (fun w' hD => ?ha2) (fun w' hD => ?ca2)) (fun v2 hv2 => ?na2)
    case ha2 => go_simp; constructor <;> rfl
    case ca2 =>
      refine (clashes_any h D A c (inSet l) w' hn (hd1.ext hD.1)).mono ?_
      rintro e w2 ⟨rfl, hb⟩
      exact ⟨_, rfl, hb, rfl⟩
    obtain ⟨_, -, -, rfl⟩ := hv2
    simp only [Act.put, List.setIfInBounds_toArray, List.set_cons_succ, List.set_cons_zero, Nat.reduceAdd]
    try rw [HQ.out]
    refine wM_val ?ua3 rfl rfl Ext.refl (fun w' hD => ?ha3) (fun pha3 => ?na3)
    case ha3 =>
      obtain ⟨d0, d1, d2⟩ := FX.out w' hD.1; have e0 := d2.cell (b := 0) (by decide); have e1 := d2.cell (b := 1) (by decide); have e2 := d2.cell (b := 2) (by decide); have e3 := d2.cell (b := 3) (by decide); have e4 := d2.cell (b := 4) (by decide); have e5 := d2.cell (b := 5) (by decide); have e6 := d2.cell (b := 6) (by decide); have e7 := d2.cell (b := 7) (by decide); have e8 := d2.cell (b := 8) (by decide); have e9 := d2.cell (b := 9) (by decide); have e10 := d2.cell (b := 10) (by decide); have e11 := d2.cell (b := 11) (by decide); have e12 := d2.cell (b := 12) (by decide); have e13 := d2.cell (b := 13) (by decide); clear d2
      go_simp; rfl
    simp only [Act.put, List.setIfInBounds_toArray, List.set_cons_succ, List.set_cons_zero, Nat.reduceAdd]
    refine wM_skip rfl ?_
    simp only [Act.put, List.setIfInBounds_toArray, List.set_cons_succ, List.set_cons_zero, Nat.reduceAdd]
    refine wM_skip rfl ?_
    simp only [Act.put, List.setIfInBounds_toArray, List.set_cons_succ, List.set_cons_zero, Nat.reduceAdd]
    refine wM_skip rfl ?_
    simp only [Act.put, List.setIfInBounds_toArray, List.set_cons_succ, List.set_cons_zero, Nat.reduceAdd]
    refine wM_skip rfl ?_
    simp only [Act.put, List.setIfInBounds_toArray, List.set_cons_succ, List.set_cons_zero, Nat.reduceAdd]
    refine wM_skip rfl ?_
    simp only [Act.put, List.setIfInBounds_toArray, List.set_cons_succ, List.set_cons_zero, Nat.reduceAdd]
    refine wM_val ?ua9 rfl rfl Ext.refl (fun w' hD => ?ha9) (fun pha9 => ?na9)
    case ha9 =>
      obtain ⟨d0, d1, d2⟩ := FX.out w' hD.1; have e0 := d2.cell (b := 0) (by decide); have e1 := d2.cell (b := 1) (by decide); have e2 := d2.cell (b := 2) (by decide); have e3 := d2.cell (b := 3) (by decide); have e4 := d2.cell (b := 4) (by decide); have e5 := d2.cell (b := 5) (by decide); have e6 := d2.cell (b := 6) (by decide); have e7 := d2.cell (b := 7) (by decide); have e8 := d2.cell (b := 8) (by decide); have e9 := d2.cell (b := 9) (by decide); have e10 := d2.cell (b := 10) (by decide); have e11 := d2.cell (b := 11) (by decide); have e12 := d2.cell (b := 12) (by decide); have e13 := d2.cell (b := 13) (by decide); clear d2
      go_simp; rfl
    simp only [Act.put, List.setIfInBounds_toArray, List.set_cons_succ, List.set_cons_zero, Nat.reduceAdd]
    refine wM_val ?ua10 rfl rfl Ext.refl (fun w' hD => ?ha10) (fun pha10 => ?na10)
    case ha10 =>
      obtain ⟨d0, d1, d2⟩ := FX.out w' hD.1; have e0 := d2.cell (b := 0) (by decide); have e1 := d2.cell (b := 1) (by decide); have e2 := d2.cell (b := 2) (by decide); have e3 := d2.cell (b := 3) (by decide); have e4 := d2.cell (b := 4) (by decide); have e5 := d2.cell (b := 5) (by decide); have e6 := d2.cell (b := 6) (by decide); have e7 := d2.cell (b := 7) (by decide); have e8 := d2.cell (b := 8) (by decide); have e9 := d2.cell (b := 9) (by decide); have e10 := d2.cell (b := 10) (by decide); have e11 := d2.cell (b := 11) (by decide); have e12 := d2.cell (b := 12) (by decide); have e13 := d2.cell (b := 13) (by decide); clear d2
      go_simp; rfl
    simp only [Act.put, List.setIfInBounds_toArray, List.set_cons_succ, List.set_cons_zero, Nat.reduceAdd]
    refine wM_nil ?_
    intro w9 hw9 hF9
    go_wp2
    go_ret
    exact ⟨by rw [goOn_nil]; rfl, by rw [told_nil, List.append_nil]; exact hW.ext hJ (hx1.trans hw9), Ext.belS (hx1.trans hw9)⟩
  · have hc' : clsH h (inSet l) = false := by simpa using hc
    have HQ : Hid (clsH h (inSet l) = false) := hc'
    have hLn : L = [l] := by rw [HC.out, if_neg hc]
    subst hLn
    have hA1 := hA.ext hx1
    clear hc hc'
    refine wp_region_shut_tail Ext (fun w' => Ext W1 w') (fun | 2 => some (fun v _ => v = .bool (clsH h (inSet l))) | 7 => some (fun v W => ∃ A2 c2, v = .slice A2 l.length c2 ∧ W.ownsRow W1.heap.size 3 1 (.slice A2 l.length c2) l.length (l.map (.int .i64))) | _ => none) 8 (by kernel_rfl) (by kernel_rfl) (fun _ _ h k => h.trans k) ?hT2 (Ext.drew (Ext.refl W1)) ?_
    case hT2 =>
      intro i R hR
      match i, hR with
      | 2, hR => cases hR; exact fun _ _ _ h _ => h
      | 7, hR => cases hR; exact fun _ _ _ ⟨A2, c2, e1, e2⟩ k => ⟨A2, c2, e1, own_below e2 k⟩
    refine wM_val ?ub0 rfl rfl Ext.refl (fun w' hD => ?hb0) (fun phb0 => ?nb0)
    case hb0 =>
      obtain ⟨d0, d1, d2⟩ := FX.out w' hD.1; have e0 := d2.cell (b := 0) (by decide); have e1 := d2.cell (b := 1) (by decide); have e2 := d2.cell (b := 2) (by decide); have e3 := d2.cell (b := 3) (by decide); have e4 := d2.cell (b := 4) (by decide); have e5 := d2.cell (b := 5) (by decide); have e6 := d2.cell (b := 6) (by decide); have e7 := d2.cell (b := 7) (by decide); have e8 := d2.cell (b := 8) (by decide); have e9 := d2.cell (b := 9) (by decide); have e10 := d2.cell (b := 10) (by decide); have e11 := d2.cell (b := 11) (by decide); have e12 := d2.cell (b := 12) (by decide); have e13 := d2.cell (b := 13) (by decide); clear d2
      go_simp; rfl
    simp only [Act.put, List.setIfInBounds_toArray, List.set_cons_succ, List.set_cons_zero, Nat.reduceAdd]
    refine wM_val ?ub1 rfl rfl Ext.refl (fun w' hD => ?hb1) (fun phb1 => ?nb1)
    case hb1 =>
      obtain ⟨d0, d1, d2⟩ := FX.out w' hD.1; have e0 := d2.cell (b := 0) (by decide); have e1 := d2.cell (b := 1) (by decide); have e2 := d2.cell (b := 2) (by decide); have e3 := d2.cell (b := 3) (by decide); have e4 := d2.cell (b := 4) (by decide); have e5 := d2.cell (b := 5) (by decide); have e6 := d2.cell (b := 6) (by decide); have e7 := d2.cell (b := 7) (by decide); have e8 := d2.cell (b := 8) (by decide); have e9 := d2.cell (b := 9) (by decide); have e10 := d2.cell (b := 10) (by decide); have e11 := d2.cell (b := 11) (by decide); have e12 := d2.cell (b := 12) (by decide); have e13 := d2.cell (b := 13) (by decide); clear d2
      go_simp; rfl
    simp only [Act.put, List.setIfInBounds_toArray, List.set_cons_succ, List.set_cons_zero, Nat.reduceAdd]
    refine wM_op _ rfl rfl (opens_call ?fb2 ?gb2 (fun w' hD => ?hb2) (fun w' hD => ?cb2)) (fun v2 hv2 => ?nb2)
    case hb2 => go_simp; constructor <;> rfl
    case cb2 =>
      refine (clashes_any h D A c (inSet l) w' hn (hd1.ext hD.1)).mono ?_
      rintro e w2 ⟨rfl, hb⟩
      exact ⟨_, rfl, hb, rfl⟩
    obtain ⟨_, -, -, rfl⟩ := hv2
    simp only [Act.put, List.setIfInBounds_toArray, List.set_cons_succ, List.set_cons_zero, Nat.reduceAdd]
    try rw [HQ.out]
    refine wM_val ?ub3 rfl rfl Ext.refl (fun w' hD => ?hb3) (fun phb3 => ?nb3)
    case hb3 =>
      obtain ⟨d0, d1, d2⟩ := FX.out w' hD.1; have e0 := d2.cell (b := 0) (by decide); have e1 := d2.cell (b := 1) (by decide); have e2 := d2.cell (b := 2) (by decide); have e3 := d2.cell (b := 3) (by decide); have e4 := d2.cell (b := 4) (by decide); have e5 := d2.cell (b := 5) (by decide); have e6 := d2.cell (b := 6) (by decide); have e7 := d2.cell (b := 7) (by decide); have e8 := d2.cell (b := 8) (by decide); have e9 := d2.cell (b := 9) (by decide); have e10 := d2.cell (b := 10) (by decide); have e11 := d2.cell (b := 11) (by decide); have e12 := d2.cell (b := 12) (by decide); have e13 := d2.cell (b := 13) (by decide); clear d2
      go_simp; rfl
    simp only [Act.put, List.setIfInBounds_toArray, List.set_cons_succ, List.set_cons_zero, Nat.reduceAdd]
    refine wM_val ?ub4 rfl rfl Ext.refl (fun w' hD => ?hb4) (fun phb4 => ?nb4)
    case hb4 =>
      obtain ⟨d0, d1, d2⟩ := FX.out w' hD.1; have e0 := d2.cell (b := 0) (by decide); have e1 := d2.cell (b := 1) (by decide); have e2 := d2.cell (b := 2) (by decide); have e3 := d2.cell (b := 3) (by decide); have e4 := d2.cell (b := 4) (by decide); have e5 := d2.cell (b := 5) (by decide); have e6 := d2.cell (b := 6) (by decide); have e7 := d2.cell (b := 7) (by decide); have e8 := d2.cell (b := 8) (by decide); have e9 := d2.cell (b := 9) (by decide); have e10 := d2.cell (b := 10) (by decide); have e11 := d2.cell (b := 11) (by decide); have e12 := d2.cell (b := 12) (by decide); have e13 := d2.cell (b := 13) (by decide); clear d2
      go_simp; rfl
    simp only [Act.put, List.setIfInBounds_toArray, List.set_cons_succ, List.set_cons_zero, Nat.reduceAdd]
    refine wM_val ?ub5 rfl rfl Ext.refl (fun w' hD => ?hb5) (fun phb5 => ?nb5)
    case hb5 =>
      obtain ⟨d0, d1, d2⟩ := FX.out w' hD.1; have e0 := d2.cell (b := 0) (by decide); have e1 := d2.cell (b := 1) (by decide); have e2 := d2.cell (b := 2) (by decide); have e3 := d2.cell (b := 3) (by decide); have e4 := d2.cell (b := 4) (by decide); have e5 := d2.cell (b := 5) (by decide); have e6 := d2.cell (b := 6) (by decide); have e7 := d2.cell (b := 7) (by decide); have e8 := d2.cell (b := 8) (by decide); have e9 := d2.cell (b := 9) (by decide); have e10 := d2.cell (b := 10) (by decide); have e11 := d2.cell (b := 11) (by decide); have e12 := d2.cell (b := 12) (by decide); have e13 := d2.cell (b := 13) (by decide); clear d2
      go_simp; rfl
    simp only [Act.put, List.setIfInBounds_toArray, List.set_cons_succ, List.set_cons_zero, Nat.reduceAdd]
    refine wM_val ?ub6 rfl rfl Ext.refl (fun w' hD => ?hb6) (fun phb6 => ?nb6)
    case hb6 =>
      obtain ⟨d0, d1, d2⟩ := FX.out w' hD.1; have e0 := d2.cell (b := 0) (by decide); have e1 := d2.cell (b := 1) (by decide); have e2 := d2.cell (b := 2) (by decide); have e3 := d2.cell (b := 3) (by decide); have e4 := d2.cell (b := 4) (by decide); have e5 := d2.cell (b := 5) (by decide); have e6 := d2.cell (b := 6) (by decide); have e7 := d2.cell (b := 7) (by decide); have e8 := d2.cell (b := 8) (by decide); have e9 := d2.cell (b := 9) (by decide); have e10 := d2.cell (b := 10) (by decide); have e11 := d2.cell (b := 11) (by decide); have e12 := d2.cell (b := 12) (by decide); have e13 := d2.cell (b := 13) (by decide); clear d2
      go_simp; rfl
    simp only [Act.put, List.setIfInBounds_toArray, List.set_cons_succ, List.set_cons_zero, Nat.reduceAdd]
    refine wM_op _ rfl rfl (opens_call ?fb7 ?gb7 (fun w' hD => ?hb7) (fun w' hD => ?cb7)) (fun v7 hv7 => ?nb7)
    case hb7 => go_simp; constructor <;> rfl
    case cb7 =>
      refine (clone_int Al cl l w' ((hA1.ext hD.1)) (by omega)).mono ?_
      rintro e w2 ⟨A2, c2, rfl, ho, _, hb⟩
      exact ⟨_, rfl, hb, A2, c2, rfl, own_base ho (hD.1.size)⟩
    obtain ⟨_, -, -, A2, c2, rfl, -⟩ := hv7
    simp only [Act.put, List.setIfInBounds_toArray, List.set_cons_succ, List.set_cons_zero, Nat.reduceAdd]
    refine wM_nil ?_
    intro w9 hw9 hF9
    obtain ⟨-, A3, c3, e7, ho9⟩ := hF9 7
    cases e7
    have eg := hW.enters
    have KW := hW.call pre l W1.heap.size A2 c2 w9 (hW.ext hJ (hx1.trans hw9)) hl HLX.out (Nat.le_trans hB0 hx1.size) ho9
    simp only [List.drop_succ_cons, List.drop_zero]
    go_wp2_with fail
    refine KW.mono ?_
    rintro e w2 ⟨rfl, hj, hb⟩
    go_wp2
    go_ret
    exact ⟨by rw [goOn_one]; rfl, by rw [told_one]; exact hj, (Ext.belS (hx1.trans hw9)).trans hb⟩
end Go.Proofs.YtjnobdcbbboeeaaGreat

namespace Go.Proofs.YtjnobdcbbboeeaaGreat
open Go Go.RowKit Go.Shelf
set_option linter.unusedVariables false
set_option linter.unusedSimpArgs false

theorem bcell14_set (f : Nat → Bool) (b : Nat) (v : Bool) : (bcell14 f).set b (.bool v) = bcell14 (updB f b v) := by
  unfold bcell14 updB
  apply List.ext_getElem (by simp)
  intro i h1 h2
  simp only [List.getElem_set, List.getElem_map, List.getElem_range]
  by_cases e : b = i
  · subst e; simp
  · have e2 : ¬ i = b := fun e3 => e e3.symm
    simp [e, e2]
def restL (h : Hs) (m : Nat) (l : List Int) (n : Nat) : List (List Int) := (List.range' n (h.ws.length - m - n)).flatMap fun (j : Nat) => tellL (covH h) h.ws.length m (l ++ [(j : Int)]) (j + 1)
theorem restL_next {h : Hs} {m n : Nat} {l : List Int} (hlt : n + m < h.ws.length) : restL h m l n = tellL (covH h) h.ws.length m (l ++ [(n : Int)]) (n + 1) ++ restL h m l (n + 1) := by
  unfold restL
  rw [show h.ws.length - m - n = (h.ws.length - m - (n + 1)) + 1 by omega, List.range'_succ, List.flatMap_cons]
theorem restL_end {h : Hs} {m n : Nat} {l : List Int} (hge : ¬ n + m < h.ws.length) : restL h m l n = [] := by
  unfold restL
  rw [show h.ws.length - m - n = 0 by omega]; rfl
/-- The state of the loop: Ls has been told, and R is to be told. -/
structure TellS (b : Bool) (T Ls R pre pre' : List (List Int)) : Prop where
  all : T = Ls ++ R
  go : goOn b Ls = true
  pre : pre' = pre ++ told b Ls
theorem TellS.start (b : Bool) (T pre : List (List Int)) : TellS b T [] T pre pre := ⟨rfl, goOn_nil b, by rw [told_nil, List.append_nil]⟩
theorem TellS.none {b : Bool} {T Ls R pre pre' : List (List Int)} (h : TellS b T Ls R pre pre') (hp : b = true ∨ pre = []) : b = true ∨ pre' = [] := by
  rcases hp with hp | hp
  · exact .inl hp
  · cases b with
    | true => exact .inl rfl
    | false =>
      right
      have h2 := h.go
      rw [h.pre, hp]
      cases Ls with
      | nil => rfl
      | cons x l => simp [goOn] at h2
theorem TellS.next {b : Bool} {T Ls X R pre pre' : List (List Int)} (h : TellS b T Ls (X ++ R) pre pre') (hx : goOn b X = true) : TellS b T (Ls ++ X) R pre (pre' ++ told b X) :=
  ⟨by rw [h.all, List.append_assoc], by rw [goOn_app, h.go, hx]; rfl, by rw [told_app, if_pos h.go, h.pre, List.append_assoc]⟩
theorem TellS.stop {b : Bool} {T Ls X R pre pre' : List (List Int)} (h : TellS b T Ls (X ++ R) pre pre') (hx : goOn b X = false) : goOn b T = false ∧ pre ++ told b T = pre' ++ told b X := by
  rw [h.all, goOn_app, goOn_app, hx, told_app, if_pos h.go, told_app, if_neg (by rw [hx]; simp), h.pre, List.append_assoc]
  simp
theorem TellS.fin {b : Bool} {T Ls pre pre' : List (List Int)} (h : TellS b T Ls [] pre pre') : goOn b T = true ∧ pre ++ told b T = pre' := by
  rw [h.all, List.append_nil, h.pre]
  exact ⟨h.go, rfl⟩

set_option maxRecDepth 100000 in
set_option maxHeartbeats 4000000 in
theorem more_any (h : Hs) (D Bd Bw Bm : Nat) (A : Option Addr) (c : Nat) (B0 g : Nat) (lb : Array Value) (b : Bool) (S : Nat → Prop) (J : List (List Int) → World → Prop) (hn : h.ws.length ≤ 14) (hW : WatchR B0 g lb b S J)
    (hkp : ∀ {pre : List (List Int)} {W W' : World}, (b = true ∨ pre = []) → J pre W → BelS (fun k => B0 ≤ k) W W' → J pre W')
    (hS : ∀ k, S k → k < B0 ∧ k ≠ D ∧ k ≠ Bd ∧ k ≠ Bw ∧ k ≠ Bm) (hDB : D < B0) (hBd : Bd < B0) (hBw : Bw < B0) (hBm : Bm < B0) : ∀ (m : Nat) (l : List Int) (k : Nat) (Al : Option Addr) (cl : Nat) (W : World) (pre : List (List Int)),
    l.length + m ≤ 14 → (∀ x ∈ l, 0 ≤ x ∧ x < 14) → k ≤ 14 → B0 ≤ W.heap.size → (b = true ∨ pre = []) → J pre W → Dsk W D A c h (claG h) → W.ownsRow B0 3 1 (.slice Al l.length cl) l.length (l.map (.int .i64)) →
    W.cell? ⟨Bd, 0, none⟩ = some (.pointer (some ⟨D, 0, none⟩)) → W.cell? ⟨Bw, 0, none⟩ = some (.func (.func g) #[] lb) → W.cell? ⟨Bm, 0, none⟩ = some (.func (.func 63) #[] (moreB Bd Bw Bm)) →
    Calls Tryz.prog 63 (#[.agg (bcell14 (inSet l)).toArray, .slice Al l.length cl, .int .i64 (k : Int), .int .i64 (m : Int)] ++ moreB Bd Bw Bm) W fun e W' =>
      e = .returned (.bool (goOn b (tellL (covH h) h.ws.length m l k))) ∧ J (pre ++ told b (tellL (covH h) h.ws.length m l k)) W' ∧ BelS (fun j => S j ∨ (Value.slice Al l.length cl).ownBlock = some j) W W' ∧
        W'.ownsRow B0 3 1 (.slice Al l.length cl) l.length (l.map (.int .i64)) := by
  intro m
  induction m with
  | zero =>
    intro l k Al cl W pre hl hlx _ hB hp hJ hd ho kd kw km
    refine (more_zero h D Bd Bw Bm A c B0 g lb b S J hn hW l k Al cl W pre (by omega) hlx hB hJ hd (Rd.of_own ho) kd kw).mono ?_
    rintro e W' ⟨rfl, hj, hb⟩
    exact ⟨rfl, hj, hb.mono (fun _ _ h => .inl h), hb.own ho (fun g hg hs => by have := (hS g hs).1; have := (ho.lt g hg).1; omega)⟩
  | succ m ih =>
    intro l k Al cl W pre hl hlx hk14 hB hp hJ hd ho kd kw km
    have HIH := hid ih
    have HLX := hid hlx
    clear ih hlx
    obtain ⟨N, hN⟩ : ∃ N : Nat, h.ws.length = N := ⟨_, rfl⟩
    have HN := hid hN
    have HT0 : Hid (tellL (covH h) h.ws.length (m + 1) l k = restL h m l k) := rfl
    obtain ⟨T, hT⟩ : ∃ T, tellL (covH h) h.ws.length (m + 1) l k = T := ⟨_, rfl⟩
    have HTS : Hid (TellS b T [] (restL h m l k) pre pre) := by
      unfold Hid
      rw [← HT0.out, hT]
      exact TellS.start _ _ _
    rw [hT]
    clear hT HT0
    have hne : ¬ ((m : Int) + 1 = 0) := by omega
    have hN14 : N ≤ 14 := by omega
    clear hN
    have HHD := hid hd
    have e0 := hd.ws
    rw [HN.out] at e0
    have HHO := hid ho
    have hqS : Hid (∀ j, (Value.slice Al l.length cl).ownBlock = some j → B0 ≤ j ∧ j < W.heap.size) := fun j hj => by have := ho.lt j hj; omega
    obtain ⟨Q, hQ⟩ : ∃ Q : Nat → Prop, Q = fun j => S j ∨ (Value.slice Al l.length cl).ownBlock = some j := ⟨_, rfl⟩
    have HQ : Hid (∀ j, Q j ↔ S j ∨ (Value.slice Al l.length cl).ownBlock = some j) := fun j => by rw [hQ]
    have HQ2 := hid hQ
    clear hQ
    have HQD : Hid (¬ Q D ∧ ¬ Q Bd ∧ ¬ Q Bw ∧ ¬ Q Bm ∧ ∀ j, W.heap.size ≤ j → ¬ Q j) := by
      refine ⟨?_, ?_, ?_, ?_, ?_⟩ <;> (intros; intro hq; rcases (HQ.out _).1 hq with hq | hq; (have := hS _ hq; omega); (have := hqS.out _ hq; omega))
    rw [← HQ2.out]
    obtain ⟨W1, hW1⟩ : ∃ W1, W.alloc (.cells (bcell14 (inSet l)).toArray 90) = W1 := ⟨_, rfl⟩
    have hx1 : Ext W W1 := by rw [← hW1]; exact (Ext.refl _).alloc _
    have hbb : BB W1 W.heap.size (inSet l) := by rw [← hW1]; exact heap_alloc_new W _
    rw [show (((m + 1 : Nat) : Int)) = (m : Int) + 1 by omega]
    simp only [moreB, List.append_toArray, List.cons_append, List.nil_append]
    go_enter Tryz.func63, Tryz.ntmps63
    go_wp2_with fail
    try rw [hW1]
    clear hW1
    have kd1 := hx1.cell kd
    have kw1 := hx1.cell kw
    have km1 := hx1.cell km
    have e1 := hx1.cell e0
    have ho1 := own_below ho hx1
    have HJ1 := hid (hW.ext hJ hx1)
    have hd1 := hd.ext hx1
    have hz1 := hx1.size
    have HKP : Hid (∀ {pre : List (List Int)} {W W' : World}, (b = true ∨ pre = []) → J pre W → BelS (fun k => B0 ≤ k) W W' → J pre W') := @hkp
    clear kd kw km e0 hJ hd ho hkp
    rw [show (((m : Int) + 1) == 0) = false from by simp; omega]
    go_loopw [12] (fun i wr => ∃ (n : Nat) (Ls pre' : List (List Int)), i = .int .i64 (n : Int) ∧ n ≤ 15 ∧ Hid (TellS b T Ls (restL h m l n) pre pre') ∧ Hid (J pre' wr) ∧ BelS Q W1 wr ∧ wr.ownsRow B0 3 1 (.slice Al l.length cl) l.length (l.map (.int .i64))) (fun i _ => 15 - (intOf i).toNat)
    case atStart => exact ⟨k, [], pre, rfl, by omega, HTS, HJ1, BelS.refl _ _, ho1⟩
    case round =>
      obtain ⟨n, Ls, pre', rfl, hn15, HTS, HJ, hbl, hor⟩ := hrel
      have kdr := hbl.cell kd1 HQD.out.2.1
      have kwr := hbl.cell kw1 HQD.out.2.2.1
      have kmr := hbl.cell km1 HQD.out.2.2.2.1
      have er := hbl.cell e1 HQD.out.1
      have hbr : BB wr W.heap.size (inSet l) := hbl.heap hbb (HQD.out.2.2.2.2 _ (Nat.le_refl _))
      have hdr : Dsk wr D A c h (claG h) := hbl.heap hd1 HQD.out.1
      have hzr := hbl.size
      by_cases hlt : n + m < N
      · have hlt' : (n : Int) ≤ (N : Int) - ((m : Int) + 1) := by omega
        have hn14 : n < 14 := by omega
        have hn14' : (n : Int) < 14 := by omega
        obtain ⟨c0, c1, c2, c3, c4, c5, c6, c7, c8, c9, c10, c11, c12, c13⟩ : wr.cell? ⟨W.heap.size, 0, none⟩ = some (.bool (inSet l 0)) ∧ wr.cell? ⟨W.heap.size, 1, none⟩ = some (.bool (inSet l 1)) ∧ wr.cell? ⟨W.heap.size, 2, none⟩ = some (.bool (inSet l 2)) ∧ wr.cell? ⟨W.heap.size, 3, none⟩ = some (.bool (inSet l 3)) ∧ wr.cell? ⟨W.heap.size, 4, none⟩ = some (.bool (inSet l 4)) ∧ wr.cell? ⟨W.heap.size, 5, none⟩ = some (.bool (inSet l 5)) ∧ wr.cell? ⟨W.heap.size, 6, none⟩ = some (.bool (inSet l 6)) ∧ wr.cell? ⟨W.heap.size, 7, none⟩ = some (.bool (inSet l 7)) ∧ wr.cell? ⟨W.heap.size, 8, none⟩ = some (.bool (inSet l 8)) ∧ wr.cell? ⟨W.heap.size, 9, none⟩ = some (.bool (inSet l 9)) ∧ wr.cell? ⟨W.heap.size, 10, none⟩ = some (.bool (inSet l 10)) ∧ wr.cell? ⟨W.heap.size, 11, none⟩ = some (.bool (inSet l 11)) ∧ wr.cell? ⟨W.heap.size, 12, none⟩ = some (.bool (inSet l 12)) ∧ wr.cell? ⟨W.heap.size, 13, none⟩ = some (.bool (inSet l 13)) := ⟨hbr.cell (by decide), hbr.cell (by decide), hbr.cell (by decide), hbr.cell (by decide), hbr.cell (by decide), hbr.cell (by decide), hbr.cell (by decide), hbr.cell (by decide), hbr.cell (by decide), hbr.cell (by decide), hbr.cell (by decide), hbr.cell (by decide), hbr.cell (by decide), hbr.cell (by decide)⟩
        go_upto_region 8 with fail
        obtain ⟨W7, hW7⟩ : ∃ W7, wr.alloc (.cells ((bcell14 (inSet l)).set n (.bool true)).toArray 90) = W7 := ⟨_, rfl⟩
        have hx7 : Ext wr W7 := by rw [← hW7]; exact (Ext.refl _).alloc _
        have hb7 : BB W7 wr.heap.size (inSet (l ++ [(n : Int)])) := by
          rw [← inSet_app, ← hW7]
          unfold BB
          rw [heap_alloc_new, bcell14_set]
        simp only [bcell14, List.range, List.range.loop, List.map_cons, List.map_nil] at hW7
        rw [hW7]
        clear hW7 c0 c1 c2 c3 c4 c5 c6 c7 c8 c9 c10 c11 c12 c13
        have hB7 : B0 ≤ W7.heap.size := Nat.le_trans hB (Nat.le_trans hz1 (Nat.le_trans hzr hx7.size))
        have hqo : Hid (∀ j, (Value.slice Al l.length cl).ownBlock = some j → Q j) := fun j hj => (HQ.out j).2 (.inr hj)
        have hwr7 : W.heap.size ≤ wr.heap.size := Nat.le_trans hz1 hzr
        have kd7 := hx7.cell kdr
        have kw7 := hx7.cell kwr
        have km7 := hx7.cell kmr
        have ho7 := own_below hor hx7
        have hd7 := hdr.ext hx7
        have FX : Hid (∀ w', BelS (fun j => (Value.slice Al l.length cl).ownBlock = some j) W7 w' → w'.cell? ⟨Bm, 0, none⟩ = some (.func (.func 63) #[] (moreB Bd Bw Bm)) ∧ BB w' wr.heap.size (inSet (l ++ [(n : Int)]))) := fun w' h =>
          ⟨h.cell km7 (fun e => HQD.out.2.2.2.1 (hqo.out _ e)), h.heap hb7 (fun e => HQD.out.2.2.2.2 _ hwr7 (hqo.out _ e))⟩
        clear hb7 kmr kdr kwr hdr er hbr
        refine wp_region_shut_tail (LaidO (fun j => (Value.slice Al l.length cl).ownBlock = some j) B0 3 l.length (l.map (.int .i64)) (.int .i64 (n : Int))) (fun w' => BelS (fun j => (Value.slice Al l.length cl).ownBlock = some j) W7 w' ∧ w'.ownsRow B0 3 1 (.slice Al l.length cl) l.length (l.map (.int .i64))) (fun
          | 4 => some (fun v W => ∃ b, v = .slice (some ⟨b, 0, none⟩) 1 1 ∧ B0 ≤ b ∧ Rd0 W b [.int .i64 (n : Int)])
          | 5 => some (fun v W => ∃ g c5, v = .slice (some ⟨g, 0, none⟩) (l.length + 1) c5 ∧ ((Al = some ⟨g, 0, none⟩ ∧ cl = c5) ∨ W7.heap.size ≤ g) ∧ W.ownsRow B0 3 1 (.slice (some ⟨g, 0, none⟩) (l.length + 1) c5) (l.length + 1) (l.map (.int .i64) ++ [.int .i64 (n : Int)]))
          | _ => none) 10 (by kernel_rfl) (by kernel_rfl) (fun _ _ h k => ⟨h.1.trans k.1, k.2.1 _ h.2⟩) ?hT ⟨(BelS.refl _ _).drew, own_below ho7 ((Ext.refl _).drew)⟩ ?_
        case hT =>
          intro i R hR
          match i, hR with
          | 4, hR => cases hR; exact fun _ _ _ ⟨b, e1, e0, e2⟩ k => ⟨b, e1, e0, k.2.2.2 _ e0 e2⟩
          | 5, hR => cases hR; exact fun _ _ _ ⟨g, c5, e1, e2, e3⟩ k => ⟨g, c5, e1, e2, k.2.2.1 _ e3⟩
        refine wM_val ?ua0 rfl rfl LaidO.refl (fun w' hD => ?ha0) (fun pha0 => ?na0)
        case ha0 =>
          obtain ⟨d0, d2⟩ := FX.out w' hD.1.1; have e0 := d2.cell (b := 0) (by decide); have e1 := d2.cell (b := 1) (by decide); have e2 := d2.cell (b := 2) (by decide); have e3 := d2.cell (b := 3) (by decide); have e4 := d2.cell (b := 4) (by decide); have e5 := d2.cell (b := 5) (by decide); have e6 := d2.cell (b := 6) (by decide); have e7 := d2.cell (b := 7) (by decide); have e8 := d2.cell (b := 8) (by decide); have e9 := d2.cell (b := 9) (by decide); have e10 := d2.cell (b := 10) (by decide); have e11 := d2.cell (b := 11) (by decide); have e12 := d2.cell (b := 12) (by decide); have e13 := d2.cell (b := 13) (by decide); clear d2
          go_simp; rfl
        simp only [Act.put, List.setIfInBounds_toArray, List.set_cons_succ, List.set_cons_zero, Nat.reduceAdd]
        refine wM_val ?ua1 rfl rfl LaidO.refl (fun w' hD => ?ha1) (fun pha1 => ?na1)
        case ha1 =>
          obtain ⟨d0, d2⟩ := FX.out w' hD.1.1; have e0 := d2.cell (b := 0) (by decide); have e1 := d2.cell (b := 1) (by decide); have e2 := d2.cell (b := 2) (by decide); have e3 := d2.cell (b := 3) (by decide); have e4 := d2.cell (b := 4) (by decide); have e5 := d2.cell (b := 5) (by decide); have e6 := d2.cell (b := 6) (by decide); have e7 := d2.cell (b := 7) (by decide); have e8 := d2.cell (b := 8) (by decide); have e9 := d2.cell (b := 9) (by decide); have e10 := d2.cell (b := 10) (by decide); have e11 := d2.cell (b := 11) (by decide); have e12 := d2.cell (b := 12) (by decide); have e13 := d2.cell (b := 13) (by decide); clear d2
          go_simp; rfl
        simp only [Act.put, List.setIfInBounds_toArray, List.set_cons_succ, List.set_cons_zero, Nat.reduceAdd]
        refine wM_val ?ua2 rfl rfl LaidO.refl (fun w' hD => ?ha2) (fun pha2 => ?na2)
        case ha2 =>
          obtain ⟨d0, d2⟩ := FX.out w' hD.1.1; have e0 := d2.cell (b := 0) (by decide); have e1 := d2.cell (b := 1) (by decide); have e2 := d2.cell (b := 2) (by decide); have e3 := d2.cell (b := 3) (by decide); have e4 := d2.cell (b := 4) (by decide); have e5 := d2.cell (b := 5) (by decide); have e6 := d2.cell (b := 6) (by decide); have e7 := d2.cell (b := 7) (by decide); have e8 := d2.cell (b := 8) (by decide); have e9 := d2.cell (b := 9) (by decide); have e10 := d2.cell (b := 10) (by decide); have e11 := d2.cell (b := 11) (by decide); have e12 := d2.cell (b := 12) (by decide); have e13 := d2.cell (b := 13) (by decide); clear d2
          go_simp; rfl
        simp only [Act.put, List.setIfInBounds_toArray, List.set_cons_succ, List.set_cons_zero, Nat.reduceAdd]
        refine wM_val ?ua3 rfl rfl LaidO.refl (fun w' hD => ?ha3) (fun pha3 => ?na3)
        case ha3 =>
          obtain ⟨d0, d2⟩ := FX.out w' hD.1.1; have e0 := d2.cell (b := 0) (by decide); have e1 := d2.cell (b := 1) (by decide); have e2 := d2.cell (b := 2) (by decide); have e3 := d2.cell (b := 3) (by decide); have e4 := d2.cell (b := 4) (by decide); have e5 := d2.cell (b := 5) (by decide); have e6 := d2.cell (b := 6) (by decide); have e7 := d2.cell (b := 7) (by decide); have e8 := d2.cell (b := 8) (by decide); have e9 := d2.cell (b := 9) (by decide); have e10 := d2.cell (b := 10) (by decide); have e11 := d2.cell (b := 11) (by decide); have e12 := d2.cell (b := 12) (by decide); have e13 := d2.cell (b := 13) (by decide); clear d2
          go_simp; rfl
        simp only [Act.put, List.setIfInBounds_toArray, List.set_cons_succ, List.set_cons_zero, Nat.reduceAdd]
        refine wM_op _ rfl rfl (opens_val (fun w' hD => ?h4)) (fun v4 hv4 => ?n4)
        case h4 =>
          refine ⟨.slice (some ⟨w'.heap.size, 0, none⟩) 1 1, w'.alloc (.cells #[.int .i64 (n : Int)] 3), ?_, LaidO.of_ext (Ext.alloc (Ext.refl _) _), _, rfl, Nat.le_trans hB7 hD.1.1.size, ?_⟩
          · go_simp
          · intro j u hu
            match j with
            | 0 => cases hu; simp [go_sem]
            | j + 1 => simp at hu
        obtain ⟨_, -, -, b4, rfl, -⟩ := hv4
        simp only [Act.put, List.setIfInBounds_toArray, List.set_cons_succ, List.set_cons_zero, Nat.reduceAdd]
        refine wM_op _ rfl rfl (opens_val (fun w' hD => ?h5)) (fun v5 hv5 => ?n5)
        case h5 =>
          obtain ⟨_, b3, e4, hBb, hb4⟩ := hD.get 4 (by first | kernel_rfl | simp [Region.binds])
          cases e4
          obtain ⟨A5, c5, w5, hrun, ho5, hk5⟩ := run_append_keep2 (P := Tryz.prog) w' 31 31 3 1 8 elem_int B0 _ l.length _ hD.1.2 ⟨b4, 0, none⟩ 1 1 [.int .i64 (n : Int)] rfl (fun j u hu => by rw [Addr.add_lit, Nat.zero_add]; exact hb4 j u hu) (by simp [Value.oneCell']) (by omega) (Nat.le_trans hB7 hD.1.1.size) (by omega)
          obtain ⟨g5, rfl⟩ : ∃ g5, A5 = some ⟨g5, 0, none⟩ := own_someK ho5
          refine ⟨.slice (some ⟨g5, 0, none⟩) (l.length + 1) c5, w5, exec_appendK w' _ (.tmp 44) (.tmp 46) 31 ?_ _ _ ?_ ?_ _ _ hrun, ?_, g5, c5, rfl, ?_, ho5⟩
          · rfl
          · rfl
          · rfl
          · rcases hk5 with ⟨h, _⟩ | ⟨g, cap, e6, e7, rfl, _, hg⟩
            · exact LaidO.of_ext h
            · cases e6; cases e7
              exact LaidO.of_grown rfl (by simp) hD.1.2 ho5 hg
          · rcases hk5 with ⟨_, h⟩ | ⟨g, cap, e6, e7, rfl, _, hg⟩
            · exact .inr (Nat.le_trans hD.1.1.size (h _ rfl))
            · cases e6; cases e7
              exact .inl ⟨rfl, rfl⟩
        obtain ⟨_, -, -, g5, c5, rfl, hg5, -⟩ := hv5
        simp only [Act.put, List.setIfInBounds_toArray, List.set_cons_succ, List.set_cons_zero, Nat.reduceAdd]
        refine wM_val ?ua6 rfl rfl LaidO.refl (fun w' hD => ?ha6) (fun pha6 => ?na6)
        case ha6 =>
          obtain ⟨d0, d2⟩ := FX.out w' hD.1.1; have e0 := d2.cell (b := 0) (by decide); have e1 := d2.cell (b := 1) (by decide); have e2 := d2.cell (b := 2) (by decide); have e3 := d2.cell (b := 3) (by decide); have e4 := d2.cell (b := 4) (by decide); have e5 := d2.cell (b := 5) (by decide); have e6 := d2.cell (b := 6) (by decide); have e7 := d2.cell (b := 7) (by decide); have e8 := d2.cell (b := 8) (by decide); have e9 := d2.cell (b := 9) (by decide); have e10 := d2.cell (b := 10) (by decide); have e11 := d2.cell (b := 11) (by decide); have e12 := d2.cell (b := 12) (by decide); have e13 := d2.cell (b := 13) (by decide); clear d2
          go_simp; rfl
        simp only [Act.put, List.setIfInBounds_toArray, List.set_cons_succ, List.set_cons_zero, Nat.reduceAdd]
        refine wM_val ?ua7 rfl rfl LaidO.refl (fun w' hD => ?ha7) (fun pha7 => ?na7)
        case ha7 =>
          obtain ⟨d0, d2⟩ := FX.out w' hD.1.1; have e0 := d2.cell (b := 0) (by decide); have e1 := d2.cell (b := 1) (by decide); have e2 := d2.cell (b := 2) (by decide); have e3 := d2.cell (b := 3) (by decide); have e4 := d2.cell (b := 4) (by decide); have e5 := d2.cell (b := 5) (by decide); have e6 := d2.cell (b := 6) (by decide); have e7 := d2.cell (b := 7) (by decide); have e8 := d2.cell (b := 8) (by decide); have e9 := d2.cell (b := 9) (by decide); have e10 := d2.cell (b := 10) (by decide); have e11 := d2.cell (b := 11) (by decide); have e12 := d2.cell (b := 12) (by decide); have e13 := d2.cell (b := 13) (by decide); clear d2
          go_simp; rfl
        simp only [Act.put, List.setIfInBounds_toArray, List.set_cons_succ, List.set_cons_zero, Nat.reduceAdd]
        refine wM_val ?ua8 rfl rfl LaidO.refl (fun w' hD => ?ha8) (fun pha8 => ?na8)
        case ha8 =>
          obtain ⟨d0, d2⟩ := FX.out w' hD.1.1; have e0 := d2.cell (b := 0) (by decide); have e1 := d2.cell (b := 1) (by decide); have e2 := d2.cell (b := 2) (by decide); have e3 := d2.cell (b := 3) (by decide); have e4 := d2.cell (b := 4) (by decide); have e5 := d2.cell (b := 5) (by decide); have e6 := d2.cell (b := 6) (by decide); have e7 := d2.cell (b := 7) (by decide); have e8 := d2.cell (b := 8) (by decide); have e9 := d2.cell (b := 9) (by decide); have e10 := d2.cell (b := 10) (by decide); have e11 := d2.cell (b := 11) (by decide); have e12 := d2.cell (b := 12) (by decide); have e13 := d2.cell (b := 13) (by decide); clear d2
          go_simp; rfl
        simp only [Act.put, List.setIfInBounds_toArray, List.set_cons_succ, List.set_cons_zero, Nat.reduceAdd]
        refine wM_val ?ua9 rfl rfl LaidO.refl (fun w' hD => ?ha9) (fun pha9 => ?na9)
        case ha9 =>
          obtain ⟨d0, d2⟩ := FX.out w' hD.1.1; have e0 := d2.cell (b := 0) (by decide); have e1 := d2.cell (b := 1) (by decide); have e2 := d2.cell (b := 2) (by decide); have e3 := d2.cell (b := 3) (by decide); have e4 := d2.cell (b := 4) (by decide); have e5 := d2.cell (b := 5) (by decide); have e6 := d2.cell (b := 6) (by decide); have e7 := d2.cell (b := 7) (by decide); have e8 := d2.cell (b := 8) (by decide); have e9 := d2.cell (b := 9) (by decide); have e10 := d2.cell (b := 10) (by decide); have e11 := d2.cell (b := 11) (by decide); have e12 := d2.cell (b := 12) (by decide); have e13 := d2.cell (b := 13) (by decide); clear d2
          go_simp; rfl
        simp only [Act.put, List.setIfInBounds_toArray, List.set_cons_succ, List.set_cons_zero, Nat.reduceAdd]
        refine wM_nil ?_
        intro w9 hw9 hF9
        obtain ⟨-, g6, c6, e6, hg6, ho6⟩ := hF9 5
        cases e6
        obtain ⟨hb9, ho9⟩ := hw9
        have hbQ9 : BelS Q wr w9 := (Ext.belS hx7).trans (hb9.mono fun j _ hj => hqo.out j hj)
        have HJ9 : Hid (J pre' w9) := HKP.out (HTS.out.none hp) HJ.out ((Ext.belS hx7).trans (hb9.mono fun j _ hj => (hqS.out j hj).1))
        have hd9 : Dsk w9 D A c h (claG h) := hb9.heap hd7 (fun e => HQD.out.1 (hqo.out _ e))
        have HQq : Hid (∀ j, Q j → j < W.heap.size) := fun j hj => Nat.lt_of_not_le fun hh => HQD.out.2.2.2.2 j hh hj
        have HLN : Hid (∀ x ∈ l ++ [(n : Int)], 0 ≤ x ∧ x < 14) := fun x hx => by
          rcases List.mem_append.1 hx with hx | hx
          · exact HLX.out x hx
          · rw [List.mem_singleton] at hx; subst hx; omega
        have hcall := HIH.out (l ++ [(n : Int)]) (n + 1) (some ⟨g5, 0, none⟩) c5 w9 pre' (by simp; omega) (HLN.out) (by omega) (Nat.le_trans hB7 hb9.size) (HTS.out.none hp) HJ9.out hd9 (by rw [List.map_append, List.length_append]; exact ho6) (hb9.cell kd7 (fun e => HQD.out.2.1 (hqo.out _ e))) (hb9.cell kw7 (fun e => HQD.out.2.2.1 (hqo.out _ e))) (hb9.cell km7 (fun e => HQD.out.2.2.2.1 (hqo.out _ e)))
        simp only [List.length_append, List.length_cons, List.length_nil, Nat.zero_add, Int.natCast_add, Int.natCast_one] at hcall
        have HC := hid hcall
        clear hcall
        have HS1 := HTS.out
        rw [restL_next (by rw [HN.out]; exact hlt)] at HS1
        obtain ⟨X, hX⟩ : ∃ X, tellL (covH h) h.ws.length m (l ++ [(n : Int)]) (n + 1) = X := ⟨_, rfl⟩
        rw [hX] at HC HS1
        have HS2 := hid HS1
        clear HS1 hX HTS HKP FX hF9
        simp only [List.drop_succ_cons, List.drop_zero]
        go_wp2_with fail
        refine HC.out.mono ?_
        rintro e W4 ⟨rfl, hj4, hb4, ho4⟩
        clear HC
        have hbQ4 : BelS Q wr W4 := by
          refine BelS.then_ hbQ9 hb4 fun i hi hs => ?_
          rcases hs with hs | hs
          · exact (HQ.out i).2 (.inl hs)
          · have hs2 : g5 = i := Option.some.inj hs
            subst hs2
            rcases hg6 with ⟨ha, -⟩ | hge
            · exact (HQ.out _).2 (.inr (by rw [ha]; rfl))
            · have := hx7.size; omega
        have ho4l : W4.ownsRow B0 3 1 (.slice Al l.length cl) l.length (l.map (.int .i64)) := by
          rcases hg6 with ⟨ha, hc⟩ | hge
          · rw [ha, hc]
            rw [List.map_append] at ho4
            exact own_take ho4 (by simp) (by omega)
          · refine hb4.own ho9 fun j hj hs => ?_
            have hq := HQq.out j (hqo.out j hj)
            rcases hs with hs | hs
            · exact absurd (hS j hs).1 (by have := (hqS.out j hj).1; omega)
            · have hs2 : g5 = j := Option.some.inj hs
              have := hx7.size
              omega
        have HJ4 := hid hj4
        clear hj4 hb4 ho4 ho9 ho6 hb9 hg6
        cases hgo : goOn b X with
        | true =>
          have HSN := hid (HS2.out.next hgo)
          clear hgo HS2
          go_wp2
          go_roundw
          case rel => exact ⟨n + 1, Ls ++ X, pre' ++ told b X, by go_num, by omega, HSN, HJ4, hbl.trans hbQ4, ho4l⟩
          case measure => simp [intOf]; omega
        | false =>
          obtain ⟨f1, f2⟩ := HS2.out.stop hgo
          have HF1 := hid f1
          have HF2 := hid f2
          clear f1 f2 hgo HS2
          go_wp2
          go_ret
          exact ⟨by rw [HF1.out]; rfl, by rw [HF2.out]; exact HJ4.out, (Ext.belS hx1).trans (hbl.trans hbQ4), ho4l⟩
      · have hlt' : ¬ (n : Int) ≤ (N : Int) - ((m : Int) + 1) := by omega
        obtain ⟨f1, f2⟩ := TellS.fin (by rw [← restL_end (h := h) (l := l) (by rw [HN.out]; exact hlt)]; exact HTS.out)
        have HF1 := hid f1
        have HF2 := hid f2
        clear f1 f2
        go_wp2
        go_ret
        exact ⟨by rw [HF1.out]; rfl, by rw [HF2.out]; exact HJ.out, (Ext.belS hx1).trans hbl, hor⟩
end Go.Proofs.YtjnobdcbbboeeaaGreat

namespace Go.Proofs.YtjnobdcbbboeeaaGreat
open Go Go.RowKit Go.Shelf
set_option linter.unusedVariables false
set_option linter.unusedSimpArgs false

/-- Block F is the answer of Fewest: what has been told last. -/
def FewJ (B0 F : Nat) (pre : List (List Int)) (W : World) : Prop :=
  match pre.getLast? with
  | none => W.heap[F]? = some (.cells #[.slice none 0 0] 31 (0, 0))
  | some l => ∃ A c, W.heap[F]? = some (.cells #[.slice A l.length c] 31 (0, 0)) ∧ W.ownsRow B0 3 1 (.slice A l.length c) l.length (l.map (.int .i64))
theorem FewJ.box {B0 F : Nat} {pre : List (List Int)} {W : World} (h : FewJ B0 F pre W) : ∃ v, W.heap[F]? = some (.cells #[v] 31 (0, 0)) := by
  unfold FewJ at h
  split at h
  · exact ⟨_, h⟩
  · obtain ⟨A, c, h1, -⟩ := h; exact ⟨_, h1⟩
theorem few_watch (B0 F : Nat) (hF : F < B0) : WatchR B0 29 #[.pointer (some ⟨F, 0, none⟩)] false (fun k => k = F) (FewJ B0 F) where
  enters := enters_of Tryz.func29 (by kernel_rfl) rfl
  ext := fun {pre W W'} h hx => by
    unfold FewJ at h ⊢
    cases e : pre.getLast? with
    | none =>
      rw [e] at h
      exact (Below.block hx _ (Array.getElem?_eq_some_iff.1 h).1).trans h
    | some l =>
      rw [e] at h
      obtain ⟨A, c, h1, h2⟩ := h
      exact ⟨A, c, (Below.block hx _ (Array.getElem?_eq_some_iff.1 h1).1).trans h1, own_below h2 hx⟩
  call := fun pre l B A c W hJ hl hlx hB ho => by
    clear hlx
    obtain ⟨v, hv⟩ := hJ.box
    have c0 : W.cell? ⟨F, 0, none⟩ = some v := by rw [cell_of_row W F 0 _ _ _ hv]; rfl
    have fz : W.frozen? ⟨F, 0, none⟩ = false := by simp [World.frozen?, hv]
    have hset : (W.setCell ⟨F, 0, none⟩ (.slice A l.length c)).heap[F]? = some (.cells #[.slice A l.length c] 31 (0, 0)) := by
      simp [World.setCell, Array.getElem?_modify, hv]
    have hbs : BelS (fun k => k = F) W (W.setCell ⟨F, 0, none⟩ (.slice A l.length c)) := (BelS.refl _ _).setCell _ _ rfl
    have ho2 := hbs.own ho (fun g hg => fun e => by
      have := (ho.lt g hg).1
      omega)
    simp only [List.append_toArray, List.cons_append, List.nil_append]
    go_enter Tryz.func29, Tryz.ntmps29
    go_wp2
    go_ret
    exact ⟨rfl, by unfold FewJ; simp only [List.getLast?_append, List.getLast?_singleton, Option.some_or]; exact ⟨A, c, hset, own_base ho2 hB⟩, hbs⟩
theorem few_keep (B0 F : Nat) (hF : F < B0) {pre : List (List Int)} {W W' : World} (hp : (false = true) ∨ pre = []) (h : FewJ B0 F pre W) (hb : BelS (fun k => B0 ≤ k) W W') : FewJ B0 F pre W' := by
  rcases hp with hp | hp
  · cases hp
  · subst hp
    exact hb.heap (k := F) h (by omega)
end Go.Proofs.YtjnobdcbbboeeaaGreat

namespace Go.Proofs.YtjnobdcbbboeeaaGreat
open Go Go.RowKit Go.Shelf
set_option linter.unusedVariables false
set_option linter.unusedSimpArgs false

set_option maxRecDepth 100000 in
set_option maxHeartbeats 4000000 in
theorem smallest_any (h : Hs) (D : Nat) (A : Option Addr) (c : Nat) (g : Nat) (lb : Array Value) (b : Bool) (S : Nat → Prop) (J : List (List Int) → World → Prop) (w : World) (hn : h.ws.length ≤ 14) (hsz : sizeH h ≤ 14) (hd : Dsk w D A c h (claG h))
    (hW : WatchR (w.heap.size + 3) g lb b S J) (hkp : ∀ {pre : List (List Int)} {W W' : World}, (b = true ∨ pre = []) → J pre W → BelS (fun k => w.heap.size + 3 ≤ k) W W' → J pre W') (hS : ∀ k, S k → k < w.heap.size ∧ k ≠ D) (hJ : J [] w) :
    Calls Tryz.prog 28 #[.pointer (some ⟨D, 0, none⟩), .agg #[.func (.func g) #[] lb]] w fun e w' => e = .returned (.tuple #[]) ∧ J (told b (smallL h)) w' ∧ BelS S w w' := by
  have hDl := hd.lt
  have HW := hid hW
  have HKP : Hid (∀ {pre : List (List Int)} {W W' : World}, (b = true ∨ pre = []) → J pre W → BelS (fun k => w.heap.size + 3 ≤ k) W W' → J pre W') := @hkp
  have HS := hid hS
  clear hkp hW hS
  go_enter Tryz.func28, Tryz.ntmps28
  go_upto_region 3 with fail
  obtain ⟨W3, hW3⟩ : ∃ W3, ((w.alloc (.cells #[.pointer (some ⟨D, 0, none⟩)] 73)).alloc (.cells #[.func (.func g) #[] lb] 78)).alloc (.cells #[.func (.func 63) #[] (moreB w.heap.size (w.heap.size + 1) (w.heap.size + 2))] 110) = W3 := ⟨_, rfl⟩
  have hx3 : Ext w W3 := by rw [← hW3]; exact (((Ext.refl _).alloc _).alloc _).alloc _
  have hz3 : W3.heap.size = w.heap.size + 3 := by rw [← hW3]; simp
  have kd : W3.cell? ⟨w.heap.size, 0, none⟩ = some (.pointer (some ⟨D, 0, none⟩)) := by rw [← hW3]; simp [go_sem]
  have kw : W3.cell? ⟨w.heap.size + 1, 0, none⟩ = some (.func (.func g) #[] lb) := by rw [← hW3]; simp [go_sem]
  have km : W3.cell? ⟨w.heap.size + 2, 0, none⟩ = some (.func (.func 63) #[] (moreB w.heap.size (w.heap.size + 1) (w.heap.size + 2))) := by rw [← hW3]; simp [go_sem]
  try simp only [moreB] at hW3
  rw [hW3]
  clear hW3
  have hd3 := hd.ext hx3
  have HJ3 := hid (HW.out.ext hJ hx3)
  have FX : Hid (∀ w', Ext W3 w' → w'.cell? ⟨w.heap.size, 0, none⟩ = some (.pointer (some ⟨D, 0, none⟩)) ∧ w'.cell? ⟨w.heap.size + 2, 0, none⟩ = some (.func (.func 63) #[] (moreB w.heap.size (w.heap.size + 1) (w.heap.size + 2)))) := fun w' hx => ⟨hx.cell kd, hx.cell km⟩
  refine wp_region_shut_tail Ext (fun w' => Ext W3 w') (fun
    | 3 => some (fun v _ => ∃ A2 c2, v = .slice A2 (sizeH h) c2)
    | _ => none) 5 (by kernel_rfl) (by kernel_rfl) (fun _ _ h k => h.trans k) ?hT (Ext.drew (Ext.refl W3)) ?_
  case hT =>
    intro i R hR
    match i, hR with
    | 3, hR => cases hR; exact fun _ _ _ h _ => h
  refine wM_val ?ua0 rfl rfl Ext.refl (fun w' hD => ?ha0) (fun pha0 => ?na0)
  case ha0 =>
    obtain ⟨d0, d1⟩ := FX.out w' hD.1
    go_simp; rfl
  simp only [Act.put, List.setIfInBounds_toArray, List.set_cons_succ, List.set_cons_zero, Nat.reduceAdd]
  refine wM_val ?ua1 rfl rfl Ext.refl (fun w' hD => ?ha1) (fun pha1 => ?na1)
  case ha1 =>
    obtain ⟨d0, d1⟩ := FX.out w' hD.1
    go_simp; rfl
  simp only [Act.put, List.setIfInBounds_toArray, List.set_cons_succ, List.set_cons_zero, Nat.reduceAdd]
  refine wM_val ?ua2 rfl rfl Ext.refl (fun w' hD => ?ha2) (fun pha2 => ?na2)
  case ha2 =>
    obtain ⟨d0, d1⟩ := FX.out w' hD.1
    go_simp; rfl
  simp only [Act.put, List.setIfInBounds_toArray, List.set_cons_succ, List.set_cons_zero, Nat.reduceAdd]
  refine wM_op _ rfl rfl (opens_call ?fa3 ?ga3 (fun w' hD => ?ha3) (fun w' hD => ?ca3)) (fun v3 hv3 => ?na3)
  case ha3 => go_simp; constructor <;> rfl
  case ca3 =>
    refine (proof_any h D A c w' hn (hd3.ext hD.1)).mono ?_
    rintro e w2 ⟨⟨A2, c2, rfl⟩, hb⟩
    exact ⟨_, rfl, hb, A2, c2, rfl⟩
  obtain ⟨_, -, -, A2, c2, rfl⟩ := hv3
  simp only [Act.put, List.setIfInBounds_toArray, List.set_cons_succ, List.set_cons_zero, Nat.reduceAdd]
  refine wM_val ?ua4 rfl rfl Ext.refl (fun w' hD => ?ha4) (fun pha4 => ?na4)
  case ha4 =>
    obtain ⟨d0, d1⟩ := FX.out w' hD.1
    go_simp; rfl
  simp only [Act.put, List.setIfInBounds_toArray, List.set_cons_succ, List.set_cons_zero, Nat.reduceAdd]
  refine wM_nil ?_
  intro w9 hw9 hF9
  have hcall := more_any h D w.heap.size (w.heap.size + 1) (w.heap.size + 2) A c (w.heap.size + 3) g lb b S J hn HW.out HKP.out (fun k hk => by have := HS.out k hk; omega) (by omega) (by omega) (by omega) (by omega) (sizeH h) [] 0 none 0 w9 [] (by simpa using hsz) (fun x hx => by cases hx) (by omega) (by have := hw9.size; omega) (.inr rfl) (HW.out.ext HJ3.out hw9) (hd3.ext hw9) (own_nil _ _ _ _) (hw9.cell kd) (hw9.cell kw) (hw9.cell km)
  rw [inSet_nil] at hcall
  have HC := hid hcall
  obtain ⟨X, hX⟩ : ∃ X, tellL (covH h) h.ws.length (sizeH h) [] 0 = X := ⟨_, rfl⟩
  rw [hX] at HC
  have HX : Hid (smallL h = X) := hX
  clear hcall hX FX hF9 kd kw km
  simp only [List.drop_succ_cons, List.drop_zero]
  go_wp2_with fail
  refine HC.out.mono ?_
  rintro e W4 ⟨rfl, hj4, hb4, -⟩
  clear HC
  go_wp2
  refine bodyPost_end (v := .tuple #[]) ?_ rfl ⟨rfl, by rw [HX.out]; simpa using hj4, (Ext.belS (hx3.trans hw9)).trans (hb4.mono fun k _ hk => by rcases hk with hk | hk; exact hk; cases hk)⟩
  simp [results, Tryz.results28, go_sem]
end Go.Proofs.YtjnobdcbbboeeaaGreat

namespace Go.Proofs.YtjnobdcbbboeeaaGreat
open Go Go.RowKit Go.Shelf
set_option linter.unusedVariables false
set_option linter.unusedSimpArgs false

theorem told_small {h : Hs} (k : HsOK h) : told false (smallL h) = [fewH h] := by
  have := small_head k
  unfold told
  cases e : smallL h with
  | nil => rw [e] at this; cases this
  | cons x l => rw [e] at this; cases this; simp
theorem small_room {h : Hs} (k : HsOK h) : sizeH h ≤ 14 := by
  obtain ⟨-, -, f1, -, f2, -⟩ := few_is k
  have h1 := f1.len
  have h2 := k.len
  rcases h1 with h1 | h1
  · omega
  · rw [h1] at f2; simp at f2; omega
set_option maxRecDepth 100000 in
set_option maxHeartbeats 4000000 in
theorem fewest_any (v : Value) (h : Hs) (w : World) (hr : HsR w v h) (hs : h.sized) :
    Calls Tryz.prog 6 #[v] w fun e w' => ∃ A c, e = .returned (.tuple #[.slice A (fewV h).length c, .int .i64 (fewE h)]) ∧ Ext w w' ∧ Ints w' A (fewV h) := by
  obtain ⟨A, c, rfl, hrw, hcap⟩ := hr
  obtain ⟨T, hT⟩ : ∃ T, checkH h = T := ⟨_, rfl⟩
  obtain ⟨w1, hw1⟩ : ∃ w1, w.alloc (.cells #[.int .i64 h.mo, .int .i64 h.pk, .slice A h.ws.length c] 25) = w1 := ⟨_, rfl⟩
  have hx1 : Ext w w1 := by rw [← hw1]; exact Ext.alloc (Ext.refl w) _
  have b1 : w1.heap[w.heap.size]? = some (.cells #[.int .i64 h.mo, .int .i64 h.pk, .slice A h.ws.length c] 25 (0, 0)) := by rw [← hw1]; exact heap_alloc_new w _
  have c0 : w1.cell? ⟨w.heap.size, 0, none⟩ = some (.int .i64 h.mo) := by rw [cell_of_row w1 w.heap.size 0 _ _ _ b1]; rfl
  have c1 : w1.cell? ⟨w.heap.size, 1, none⟩ = some (.int .i64 h.pk) := by rw [cell_of_row w1 w.heap.size 1 _ _ _ b1]; rfl
  have c2 : w1.cell? ⟨w.heap.size, 2, none⟩ = some (.slice A h.ws.length c) := by rw [cell_of_row w1 w.heap.size 2 _ _ _ b1]; rfl
  have KO := hid (opened_any (hval h A c) h w1 ⟨A, c, rfl, Rows.ext hrw hx1, hcap⟩ hs)
  unfold hval at KO
  have HT := hid hT
  have HF : Hid (fewE h = T ∧ (T ≠ 0 → fewV h = []) ∧ (T = 0 → fewV h = fewH h)) := by
    unfold Hid fewE fewV
    rw [hT]
    exact ⟨rfl, fun e => by rw [if_pos e], fun e => by rw [if_neg (by simp [e])]⟩
  have HW1 := hid hw1
  clear hw1 hT hrw b1 hs
  unfold hval
  rw [HF.out.1]
  obtain ⟨L, hL⟩ : ∃ L, fewV h = L := ⟨_, rfl⟩
  rw [hL] at HF ⊢
  clear hL
  go_enter Tryz.func6, Tryz.ntmps6
  go_upto_region 1 with fail
  rw [HW1.out]
  clear HW1
  go_wp2_with fail
  refine KO.out.mono ?_
  rintro e w2 ⟨r, rfl, h2, hok, hbad⟩
  rw [HT.out]
  rw [HT.out] at hok hbad
  have hx2 := hx1.trans h2
  clear KO c0 c1 c2
  by_cases h0 : T = 0
  case neg =>
    have h0b : (T != 0) = true := by simpa using h0
    have HL := HF.out.2.1 h0
    subst HL
    go_wp2
    go_ret2
    exact ⟨none, 0, rfl, hx2, Rd.nil _ _⟩
  subst h0
  have HL := HF.out.2.2 rfl
  subst HL
  have k := checkH_ok HT.out
  obtain ⟨D, A2, cc, rfl, hd, -, -⟩ := hok rfl
  clear hok hbad HF
  obtain ⟨W3, hW3⟩ : ∃ W3, w2.alloc (.cells #[.slice none 0 0] 31) = W3 := ⟨_, rfl⟩
  have hx3 : Ext w2 W3 := by rw [← hW3]; exact Ext.alloc (Ext.refl _) _
  have hj3 : W3.heap[w2.heap.size]? = some (.cells #[.slice none 0 0] 31 (0, 0)) := by rw [← hW3]; exact heap_alloc_new _ _
  have hz3 : W3.heap.size = w2.heap.size + 1 := by rw [← hW3]; simp
  have hd3 := hd.ext hx3
  have hDl := hd.lt
  have KS := hid (smallest_any h D A2 cc 29 #[.pointer (some ⟨w2.heap.size, 0, none⟩)] false (fun k => k = w2.heap.size) (FewJ (W3.heap.size + 3) w2.heap.size) W3 k.len (small_room k) hd3 (few_watch _ _ (by omega)) (fun hp h hb => few_keep _ _ (by omega) hp h hb) (fun k hk => by subst hk; omega) hj3)
  rw [told_small k] at KS
  go_upto_region 5 with fail
  try rw [hW3]
  clear hW3
  go_wp2_with fail
  refine KS.out.mono ?_
  rintro e W4 ⟨rfl, ⟨A4, c4, hF4, ho4⟩, hb4⟩
  have cF : W4.cell? ⟨w2.heap.size, 0, none⟩ = some (.slice A4 (fewH h).length c4) := by rw [cell_of_row W4 _ 0 _ _ _ hF4]; rfl
  clear KS
  go_wp2
  go_ret2
  exact ⟨A4, c4, rfl, hx2.trans (((Ext.belS hx3).trans hb4 |>.mono (S' := fun k => w2.heap.size ≤ k) (fun k _ hk => by subst hk; exact Nat.le_refl _)).ext (fun k hk hS => by omega)), Rd.of_own ho4⟩
end Go.Proofs.YtjnobdcbbboeeaaGreat
