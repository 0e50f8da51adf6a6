/- FogLouder's memory: rows of distances that are being made, in a block of their own; the loudness of a blast is stored where it lies. No program stands here. -/
import Derived.Test.YtlonpgbapiemcaaFLouP
import Derived.Test.YtlonpgbapiemcaaFOne
namespace Go.Proofs.Ytlonpgbapiemcaa
open Go Go.RowKit
set_option linter.unusedVariables false
set_option linter.unusedSimpArgs false

/-- The rows ahead of j stand, those from j on are nil. -/
def FarSt (w : World) (B Lo M : Nat) (FL : Nat → List Int) (j : Nat) (vs : List Value) : Prop :=
  w.heap[B]? = some (.cells vs.toArray 38 (0, 0)) ∧ vs.length = M ∧
  (∀ i, i < j → i < M → ∃ A k, vs[i]? = some (.slice A (FL i).length k) ∧ w.ownsRow Lo 3 1 (.slice A (FL i).length k) (FL i).length ((FL i).map (.int .i64))) ∧
  ∀ i, j ≤ i → i < M → vs[i]? = some (.slice none 0 0)
theorem infoSlice2 : (Try.prog.info? 38).map (fun i => (i.zero, i.size, i.bytes)) = some (some (.slice none 0 0), 1, 24) := by kernel_rfl
theorem made_slices2 (n : Nat) : madeCells #[.slice none 0 0] n = (List.replicate n (Value.slice none 0 0)).toArray := by
  apply Array.ext
  · simp [madeCells]
  · intro i h1 h2
    simp [madeCells, Nat.mod_one]
section
variable {w w' : World} {B Lo M : Nat} {FL : Nat → List Int} {j : Nat} {vs : List Value}
theorem FarSt.start (w : World) (M Lo : Nat) (FL : Nat → List Int) : FarSt (w.alloc (.cells (madeCells #[.slice none 0 0] M) 38)) w.heap.size Lo M FL 0 (List.replicate M (.slice none 0 0)) := by
  refine ⟨?_, by simp, fun i h => by omega, fun i _ hi => ?_⟩
  · rw [made_slices2]; exact heap_alloc_new w _
  · rw [List.getElem?_replicate, if_pos hi]
theorem FarSt.keep {S : Nat → Prop} (h : FarSt w B Lo M FL j vs) (hb : BelS S w w') (hS : ∀ g, S g → ∃ cs T, w.heap[g]? = some (.cells cs T (0, 0)) ∧ T ≠ 3 ∧ T ≠ 38) : FarSt w' B Lo M FL j vs := by
  obtain ⟨h1, h2, h3, h4⟩ := h
  refine ⟨hb.heap h1 (fun e => ?_), h2, fun i hi hm => ?_, h4⟩
  · obtain ⟨cs, T, hh, -, hne⟩ := hS _ e
    rw [h1] at hh
    injection hh with hh
    injection hh with _ hh _
    exact hne hh.symm
  · obtain ⟨A, k, e, ho⟩ := h3 i hi hm
    refine ⟨A, k, e, hb.own ho (fun g hg hs => ?_)⟩
    obtain ⟨cs, T, hh, hne, -⟩ := hS g hs
    exact own_ne ho hh hne hg
theorem FarSt.ext (h : FarSt w B Lo M FL j vs) (hx : Ext w w') : FarSt w' B Lo M FL j vs :=
  h.keep (S := fun _ => False) hx.belS (fun _ e => e.elim)
theorem FarSt.at_ (h : FarSt w B Lo M FL j vs) {i : Nat} (hij : i < j) (hi : i < M) : ∃ A k, w.cell? ⟨B, i, none⟩ = some (.slice A (FL i).length k) ∧ Ints w A (FL i) ∧ (FL i).length ≤ k := by
  obtain ⟨h1, h2, h3, -⟩ := h
  obtain ⟨A, k, e1, e2⟩ := h3 i hij hi
  exact ⟨A, k, by rw [cell_of_row w B i _ _ _ h1]; simpa using e1, Rd.of_own e2, own_cap e2⟩
/-- The row j is being made: what has been laid is l. -/
def FarIn (wA w : World) (B j : Nat) (vs : List Value) (l : List Int) : Prop := ∃ A k, w.heap[B]? = some (.cells (vs.set j (.slice A l.length k)).toArray 38 (0, 0)) ∧
  w.ownsRow wA.heap.size 3 1 (.slice A l.length k) l.length (l.map (.int .i64)) ∧ Bel B wA w
theorem FarSt.begin (h : FarSt w B Lo M FL j vs) (hj : j < M) : FarIn w w B j vs [] := by
  obtain ⟨h1, h2, -, h4⟩ := h
  refine ⟨none, 0, ?_, own_nil _ _ _ _, Bel.refl _ _⟩
  have e : vs.set j (.slice none ([] : List Int).length 0) = vs := by
    apply List.ext_getElem?
    intro i
    by_cases hi : j = i
    · subst hi
      rw [List.getElem?_set_self (by omega), h4 j (Nat.le_refl _) hj]; rfl
    · rw [List.getElem?_set_ne hi]
  rw [e]; exact h1
variable {wA : World} {l : List Int}
theorem FarIn.ext (h : FarIn wA w B j vs l) (hx : Ext w w') : FarIn wA w' B j vs l := by
  obtain ⟨A, k, h1, h2, h3⟩ := h
  exact ⟨A, k, (Below.block hx B (Array.getElem?_eq_some_iff.1 h1).1).trans h1, own_below h2 hx, h3.trans hx.bel⟩
theorem FarIn.out (h : FarIn wA w B j vs l) (hj : j < vs.length) : ∃ A k, w.cell? ⟨B, j, none⟩ = some (.slice A l.length k) ∧ w.frozen? ⟨B, j, none⟩ = false ∧ w.ownsRow wA.heap.size 3 1 (.slice A l.length k) l.length (l.map (.int .i64)) ∧
    w.heap[B]? = some (.cells (vs.set j (.slice A l.length k)).toArray 38 (0, 0)) ∧ Bel B wA w := by
  obtain ⟨A, k, h1, h2, h3⟩ := h
  exact ⟨A, k, by rw [cell_of_row w B j _ _ _ h1]; simp [hj], by simp [World.frozen?, h1], h2, h1, h3⟩
/-- One number more, and the slice laid down again. -/
theorem FarIn.put {w1 w2 : World} {A A' : Option Addr} {k k' n : Nat} {x : Int} (hb : w.heap[B]? = some (.cells (vs.set j (.slice A l.length k)).toArray 38 (0, 0))) (ho : w.ownsRow wA.heap.size 3 1 (.slice A l.length k) l.length (l.map (.int .i64))) (h3 : Bel B wA w) (hBA : B < wA.heap.size)
    (hx : Ext w w1) (hg : w1.grownBy w2 (Value.slice A l.length k).ownBlock) (hn : n = l.length + 1)
    (ho2 : w2.ownsRow wA.heap.size 3 1 (.slice A' n k') n (l.map (.int .i64) ++ [.int .i64 x])) :
    FarIn wA (w2.setCell ⟨B, j, none⟩ (.slice A' n k')) B j vs (l ++ [x]) ∧ (∃ v, w2.cell? ⟨B, j, none⟩ = some v ∨ vs.length ≤ j) ∧ w2.frozen? ⟨B, j, none⟩ = false := by
  have hS : BelS (fun g => (Value.slice A l.length k).ownBlock = some g) w1 w2 := (BelS.refl _ w1).grown hg (fun g e => e)
  have hB1 := (Below.block hx B (Array.getElem?_eq_some_iff.1 hb).1).trans hb
  have hBne : ¬ (Value.slice A l.length k).ownBlock = some B := fun e => by
    have := (ho.lt B e).1; omega
  have hB2 := hS.heap hB1 hBne
  subst hn
  refine ⟨⟨A', k', ?_, ?_, ?_⟩, ?_, by simp [World.frozen?, hB2]⟩
  · rw [heap_set hB2]; simp
  · have hst : BelS (fun n => n = B) w2 (w2.setCell ⟨B, j, none⟩ (.slice A' (l.length + 1) k')) := BelS.setCell (S := fun n => n = B) (BelS.refl _ w2) _ _ rfl
    have := hst.own ho2 (fun g hg e => by have := (ho2.lt g hg).1; omega)
    simpa using this
  · exact ((h3.trans hx.bel).then_ hS (fun i hi e => by have := (ho.lt i e).1; omega)).setCell _ _
  · rw [cell_of_row w2 B j _ _ _ hB2]
    by_cases hl : j < vs.length
    · exact ⟨.slice A l.length k, .inl (by simp [hl])⟩
    · exact ⟨.slice A l.length k, .inr (by omega)⟩
theorem FarIn.done (h0 : FarSt wA B Lo M FL j vs) (h : FarIn wA w B j vs (FL j)) (hj : j < M) (hLo : Lo ≤ wA.heap.size) (hB : B < Lo) : ∃ vs', FarSt w B Lo M FL (j + 1) vs' := by
  obtain ⟨h1, h2, h3, h4⟩ := h0
  obtain ⟨A, k, q1, q2, q3⟩ := h
  refine ⟨_, q1, by simp [h2], fun i hi hm => ?_, fun i hi hm => ?_⟩
  · by_cases e : i = j
    · subst e
      exact ⟨A, k, by rw [List.getElem?_set_self (by omega)], own_base q2 hLo⟩
    · obtain ⟨A', k', e1, e2⟩ := h3 i (by omega) hm
      exact ⟨A', k', by rw [List.getElem?_set_ne (fun x => e x.symm)]; exact e1, q3.own e2 (fun g hg e => by have := (e2.lt g hg).1; omega)⟩
  · rw [List.getElem?_set_ne (by omega)]; exact h4 i (by omega) hm
end
theorem rows_lo : ∀ {l : List Bl} {k : Nat} {b : Bl} (y : Int), l[k]? = some b → (layBl.rows l)[k * 3 + 2]? = some (.int .i64 b.lo) ∧ (layBl.rows l)[k * 3 + 1]? = some (.int .i64 b.pl) ∧ (layBl.rows l).set (k * 3 + 2) (.int .i64 y) = layBl.rows (l.set k ⟨b.mi, b.pl, y⟩)
  | [], k, b, y, h => by simp at h
  | x :: l, 0, b, y, h => by
    simp at h; subst h
    exact ⟨rfl, rfl, rfl⟩
  | x :: l, k + 1, b, y, h => by
    obtain ⟨h1, h2, h3⟩ := rows_lo (l := l) (k := k) (b := b) y (by simpa using h)
    rw [show (k + 1) * 3 + 2 = k * 3 + 2 + 1 + 1 + 1 by omega, show (k + 1) * 3 + 1 = k * 3 + 1 + 1 + 1 + 1 by omega]
    have e1 : layBl.rows (x :: l) = .int .i64 x.mi :: .int .i64 x.pl :: .int .i64 x.lo :: layBl.rows l := rfl
    have e2 : layBl.rows ((x :: l).set (k + 1) ⟨b.mi, b.pl, y⟩) = .int .i64 x.mi :: .int .i64 x.pl :: .int .i64 x.lo :: layBl.rows (l.set k ⟨b.mi, b.pl, y⟩) := rfl
    rw [e1, e2]
    simp only [List.getElem?_cons_succ, List.set_cons_succ]
    exact ⟨h1, h2, by rw [h3]⟩
section
variable {D F B : Nat} {w0 w w' : World} {f : Fg} {s : Ads} {xs : List Value}
/-- The loudness of a blast is stored where it lies. -/
theorem GSt.setLoud (h : GSt D F B w0 w f s xs) {k : Nat} {b : Bl} (hk : f.bl[k]? = some b) (y : Int) :
    ∃ g, s.a2 = some ⟨g, 0, none⟩ ∧ w.cell? ⟨g, k * 3 + 2, none⟩ = some (.int .i64 b.lo) ∧ w.cell? ⟨g, k * 3 + 1, none⟩ = some (.int .i64 b.pl) ∧ (∀ i, w.frozen? ⟨g, i, none⟩ = false) ∧
      GSt D F B w0 (w.setCell ⟨g, k * 3 + 2, none⟩ (.int .i64 y)) (louF f k b y) s xs ∧ w0.heap.size ≤ g ∧ (∃ cur, w.heap[g]? = some (.cells cur 41 (0, 0))) := by
  have hkl := (List.getElem?_eq_some_iff.1 hk).1
  have o2 := h.bl
  rcases o2.2 with ⟨e, e0⟩ | ⟨g, cap, cur, e, hBg, hg, _⟩
  · omega
  · simp only [Value.slice.injEq, true_and] at e
    obtain ⟨ea, ec⟩ := e
    rw [ea] at o2
    obtain ⟨r1, r2, r3⟩ := rows_lo y hk
    obtain ⟨o3, hgr⟩ := o2.stored (k * 3 + 2) (.int .i64 y)
    rw [r3] at o3
    have hS : BelS (fun n => n = g) w (w.setCell ⟨g, k * 3 + 2, none⟩ (.int .i64 y)) := BelS.setCell (S := fun n => n = g) (BelS.refl _ w) _ _ rfl
    have hlo := h.lo
    have hF : ¬ F = g := fun e => by
      have h1 := h.blk
      rw [e, hg] at h1
      injection h1 with h1
      injection h1 with _ h1 _
      exact absurd h1 (by decide)
    have k4 : ∀ {e' : TypeId} {size' n' : Nat} {v' : Value} {ys' : List Value}, e' ≠ 41 → w.ownsRow B e' size' v' n' ys' → (w.setCell ⟨g, k * 3 + 2, none⟩ (.int .i64 y)).ownsRow B e' size' v' n' ys' := fun hne h5 => hS.own h5 (fun g' hg' e' => by
      subst e'
      exact own_ne h5 hg (fun x => hne x.symm) hg')
    have kk : ∀ {xs : List Value} {l : List Ct}, OCt false w B xs l → OCt false (w.setCell ⟨g, k * 3 + 2, none⟩ (.int .i64 y)) B xs l := fun {xs l} => by
      induction l generalizing xs with
      | nil =>
        intro h
        cases xs with
        | nil => trivial
        | cons a ys => cases ys <;> exact h.elim
      | cons x l ih =>
        intro h
        match xs, h with
        | a :: b :: ys, h =>
          obtain ⟨⟨⟨A, k, e1, o1⟩, A', k', e2, o2, o3⟩, h4⟩ := h
          exact ⟨⟨⟨A, k, e1, k4 (by decide) o1⟩, A', k', e2, k4 (by decide) o2, o3⟩, ih h4⟩
    have hl := o2.1
    refine ⟨g, ea, ?_, ?_, fun i => by simp [World.frozen?, hg], ⟨?_, k4 (by decide) h.tr, ?_, k4 (by decide) h.ct, kk h.oc, ?_, ?_, h.lo⟩, by omega, ⟨cur, hg⟩⟩
    · rw [o2.cellAt (k * 3 + 2) (by omega)]; exact r1
    · rw [o2.cellAt (k * 3 + 1) (by omega)]; exact r2
    · have h1 := hS.heap h.blk hF
      rw [h1]
      unfold mcells louF
      simp only [List.length_set]
    · unfold louF
      dsimp only
      rw [ea]
      simpa using o3
    · exact h.hp.belS hS (fun n hn e => by omega)
    · exact Ext.then_belS h.ext (fun n e => by omega) hS
end
theorem louF_again (f : Fg) (i : Nat) (b : Bl) (y z : Int) : louF (louF f i b y) i ⟨b.mi, b.pl, y⟩ z = louF f i b z := by
  unfold louF
  simp only [List.set_set]
theorem louF_get {f : Fg} {i : Nat} {b : Bl} (hi : f.bl[i]? = some b) (y : Int) : (louF f i b y).bl[i]? = some ⟨b.mi, b.pl, y⟩ := by
  unfold louF
  rw [List.getElem?_set_self (List.getElem?_eq_some_iff.1 hi).1]
theorem louF_self {f : Fg} {i : Nat} {b : Bl} (hi : f.bl[i]? = some b) : louF f i b b.lo = f := by
  unfold louF
  have : f.bl.set i ⟨b.mi, b.pl, b.lo⟩ = f.bl := by
    apply List.ext_getElem?
    intro k
    by_cases hk : i = k
    · subst hk
      rw [List.getElem?_set_self (List.getElem?_eq_some_iff.1 hi).1, hi]
    · rw [List.getElem?_set_ne hk]
  rw [this]
/-- The distances from one place. -/
def louR (f : Fg) (n : Nat) (a : Nat) : List Int := (List.range n).map (louV f a)
theorem louR_len (f : Fg) (n a : Nat) : (louR f n a).length = n := by simp [louR]
theorem louR_get (f : Fg) {n a b : Nat} (hb : b < n) : (louR f n a)[b]? = some (louV f a b) := by simp [louR, hb]
theorem louR_succ (f : Fg) (n a : Nat) : louR f (n + 1) a = louR f n a ++ [louV f a n] := by simp [louR, List.range_succ]
/-- What Far says. -/
theorem lou_far {f : Fg} (h : FogOK f) (hc : checkF f = 0) {a b : Nat} (ha : a < f.pl.toNat) (hb : b < f.pl.toNat) :
    (farE f a b = 0 ∧ farV f a b = louV f a b) ∨ (farE f a b = 6 ∧ louV f a b = 1000) := by
  have hpa : plOK f (a : Int) = true := by unfold plOK; rw [inB_iff]; omega
  have hpb : plOK f (b : Int) = true := by unfold plOK; rw [inB_iff]; omega
  by_cases e : farM f a b = 100
  · refine .inr ⟨?_, by unfold louV; rw [if_pos e]⟩
    unfold farE
    rw [if_neg (fun x => x hc), hpa, hpb]
    simp only [Int.toNat_natCast, Bool.and_self, if_true]
    rw [if_pos e]
  · have h0 : farE f a b = 0 := by
      unfold farE
      rw [if_neg (fun x => x hc), hpa, hpb]
      simp only [Int.toNat_natCast, Bool.and_self, if_true]
      rw [if_neg e]
    refine .inl ⟨h0, ?_⟩
    unfold farV louV
    rw [if_pos h0, if_neg e]
    simp only [Int.toNat_natCast]
end Go.Proofs.Ytlonpgbapiemcaa
