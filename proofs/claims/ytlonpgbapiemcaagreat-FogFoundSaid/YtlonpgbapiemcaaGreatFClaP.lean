/- The plain side of FogClashed: reports that are turned; reports that clash, and those that are left without one of them. No program stands here. -/
import Derived.Test.YtlonpgbapiemcaaGreatFRepP
import Derived.Test.YtlonpgbapiemcaaGreatFTripP
import Derived.Test.YtlonpgbapiemcaaGreatFMadeP
namespace Go.Proofs.YtlonpgbapiemcaaGreat
open Go Go.RowKit
set_option linter.unusedVariables false
set_option linter.unusedSimpArgs false

/-! ### Fewer reports let more walks fit -/
theorem agL_mono {g : Mat} {f : Fg} {sel sel' : Int → Bool} {m p : Nat} (h : ∀ i, sel i = true → sel' i = true) : ∀ {l : List Rp} {k : Nat}, agL g f sel' m p k l = true → agL g f sel m p k l = true
  | [], _, _ => rfl
  | r :: l, k, e => by
    unfold agL at e ⊢
    rw [Bool.and_eq_true] at e ⊢
    refine ⟨?_, agL_mono h e.2⟩
    have e1 := e.1
    unfold badR at e1 ⊢
    cases hs : sel (k : Int)
    · simp
    · rw [h _ hs] at e1
      exact e1
theorem sum_mono : ∀ {l : List Nat} {h h' : Nat → Int}, (∀ x ∈ l, h x ≤ h' x) → (l.map h).sum ≤ (l.map h').sum
  | [], _, _, _ => Int.le_refl _
  | x :: l, h, h', e => by
    simp only [List.map_cons, List.sum_cons]
    have h1 := e x (by simp)
    have h2 := sum_mono (l := l) (fun y hy => e y (by simp [hy]))
    omega
theorem restK_mono {g : Mat} {f : Fg} {c : Ct} {sel sel' : Int → Bool} (h : ∀ i, sel i = true → sel' i = true) (h8 : f.pl ≤ 8) : ∀ (k p : Nat), restK g f c sel' k p ≤ restK g f c sel k p
  | 0, p => by
    unfold restK
    cases e : agC g f c sel' f.mi.toNat p
    · simp only [Bool.false_eq_true, if_false]; split <;> omega
    · rw [show agC g f c sel f.mi.toNat p = true from agL_mono h e]; exact Int.le_refl _
  | k + 1, p => by
    have h0 := (restK_le (g := g) (f := f) (c := c) (sel := sel) h8 (k + 1) p).1
    unfold restK at h0 ⊢
    cases e : agC g f c sel' (f.mi.toNat - (k + 1)) p
    · simp only [Bool.false_eq_true, if_false]; exact h0
    · rw [show agC g f c sel (f.mi.toNat - (k + 1)) p = true from agL_mono h e]
      simp only [if_true]
      exact sum_mono fun q _ => restK_mono h h8 k q
theorem countM_mono {g : Mat} {f : Fg} {c : Ct} {sel sel' : Int → Bool} (h : ∀ i, sel i = true → sel' i = true) (h8 : f.pl ≤ 8) : countM g f c sel' ≤ countM g f c sel := by
  unfold countM
  have : ∀ l : List Int, (l.map fun p => restM g f c sel' 0 p.toNat).sum ≤ (l.map fun p => restM g f c sel 0 p.toNat).sum := fun l => by
    induction l with
    | nil => exact Int.le_refl _
    | cons x l ih =>
      simp only [List.map_cons, List.sum_cons]
      have := restK_mono (g := g) (f := f) (c := c) h h8 (f.mi.toNat - 0) x.toNat
      unfold restM at ih ⊢
      omega
  exact this c.st
/-! ### What the list that clashes is -/
theorem asc_full (n : Nat) : Asc 0 n (natI (List.range n)) := by
  have := Asc.filter (fun _ => true) n n 0 (by omega)
  rwa [List.filter_eq_self.2 (fun _ _ => rfl), ← List.range_eq_range'] at this
theorem mem_full {n i : Nat} (h : i < n) : memI (i : Int) (natI (List.range n)) = true := by
  rw [mem_memI]
  unfold natI
  exact List.mem_map.2 ⟨i, List.mem_range.2 h, rfl⟩
theorem Asc.weak {k k' wi : Nat} {e : List Int} (hk : k' ≤ k) (h : Asc k wi e) : Asc k' wi e := by
  cases e with
  | nil => trivial
  | cons y e => exact ⟨by have := h.1; omega, h.2.1, h.2.2⟩
theorem Asc.erase : ∀ {e : List Int} {k wi i : Nat}, Asc k wi e → Asc k wi (e.eraseIdx i)
  | [], _, _, i, _ => by simp [Asc]
  | x :: e, k, wi, 0, h => by
    simp only [List.eraseIdx_cons_zero]
    exact h.2.2.weak (by have := h.1; omega)
  | x :: e, k, wi, i + 1, h => by
    simp only [List.eraseIdx_cons_succ]
    exact ⟨h.1, h.2.1, h.2.2.erase⟩
structure ClashOK (f : Fg) (c : Ct) (l : List Int) : Prop where
  lost : lostF (farM f) f c = true
  pos : 0 < l.length
  len : l.length ≤ c.rp.length
  mem : ∀ x ∈ l, 0 ≤ x ∧ x < c.rp.length
  asc : l.Pairwise (· < ·)
  no : agreedM (farM f) f c l = false
  yes : ∀ i, i < l.length → agreedM (farM f) f c (l.eraseIdx i) = true
theorem clash_some {f : Fg} (h : FogOK f) {c : Ct} (hc : c ∈ f.ct) {l : List Int} (e : clashF (farM f) f c = some l) : ClashOK f c l := by
  rw [clash_few h hc] at e
  obtain ⟨h1, h2, h3⟩ := fewL_some e
  have hno : agreedM (farM f) f c l = false := by simpa using h2
  have hpos : 0 < l.length := by
    cases l with
    | nil => rw [agreed_none h hc] at hno; cases hno
    | cons x l => simp
  refine ⟨?_, hpos, ?_, fun x hx => ?_, h1.lt, hno, fun i hi => ?_⟩
  · unfold lostF
    have h4 := countM_mono (g := farM f) (f := f) (c := c) (sel := fun i => memI i l) (sel' := allF) (fun _ _ => rfl) h.pl.2
    have h5 := count_nn h hc allF
    unfold agreedM at hno
    simp only [decide_eq_false_iff_not] at hno
    simp only [decide_eq_true_eq]
    omega
  · rcases h1.len with h4 | h4
    · omega
    · rw [h4]; simp
  · have := h1.mem x hx
    omega
  · have := h3 (l.eraseIdx i) h1.erase (by
      unfold fewerL
      rw [List.length_eraseIdx, if_pos hi]
      simp only [Bool.or_eq_true, decide_eq_true_eq]
      left; omega)
    simpa using this
theorem clash_none_iff {f : Fg} (h : FogOK f) {c : Ct} (hc : c ∈ f.ct) : clashF (farM f) f c = none ↔ lostF (farM f) f c = false := by
  constructor
  · intro e
    rw [clash_few h hc] at e
    have h1 := fewL_none e _ (asc_full c.rp.length)
    unfold agreedM at h1
    simp only [Bool.not_eq_false', decide_eq_true_eq] at h1
    rw [countM_congr (sel' := allF) (fun i hi => mem_full hi)] at h1
    unfold lostF
    simp only [decide_eq_false_iff_not]
    omega
  · intro e
    cases hl : clashF (farM f) f c with
    | none => rfl
    | some l => have := (clash_some h hc hl).lost; rw [e] at this; cases this
/-! ### Reports that are turned -/
/-- The fog with one cart. -/
def oneC (f : Fg) (st : List Int) (rs : List Rp) : Fg := { f with ct := [⟨st, rs⟩] }
theorem again_bl : ∀ {l l' pre pre' : List Rp}, l.map Rp.bl = l'.map Rp.bl → pre.map Rp.bl = pre'.map Rp.bl → againL sameR pre l = againL sameR pre' l'
  | [], [], _, _, _, _ => rfl
  | [], _ :: _, _, _, h, _ => by simp at h
  | _ :: _, [], _, _, h, _ => by simp at h
  | x :: l, y :: l', pre, pre', h, hp => by
    simp only [List.map_cons, List.cons.injEq] at h
    unfold againL
    rw [again_bl (l := l) (l' := l') (pre := pre ++ [x]) (pre' := pre' ++ [y]) h.2 (by simp [hp, h.1])]
    congr 1
    have key : ∀ (z : Rp) (q : List Rp), q.any (sameR z) = (q.map Rp.bl).any (z.bl == ·) := fun z q => by
      rw [List.any_map]; rfl
    rw [key, key, hp, h.1]
theorem bl_mem {rs rs' : List Rp} (e : rs'.map Rp.bl = rs.map Rp.bl) {r : Rp} (h : r ∈ rs') : ∃ r' ∈ rs, r.bl = r'.bl := by
  have : r.bl ∈ rs'.map Rp.bl := List.mem_map_of_mem h
  rw [e] at this
  obtain ⟨r', h1, h2⟩ := List.mem_map.1 this
  exact ⟨r', h1, h2.symm⟩
/-- Reports of the same blasts leave the fog right. -/
theorem one_bl_ok {f : Fg} {st : List Int} {rs rs' : List Rp} (h : FogOK (oneC f st rs)) (e : rs'.map Rp.bl = rs.map Rp.bl) : FogOK (oneC f st rs') := by
  have hm : (⟨st, rs⟩ : Ct) ∈ (oneC f st rs).ct := by unfold oneC; simp
  have hl : rs'.length = rs.length := by have := congrArg List.length e; simpa using this
  have key : ∀ {Q : Ct → Prop}, Q ⟨st, rs'⟩ → ∀ x ∈ (oneC f st rs').ct, Q x := fun h1 x hx => by
    unfold oneC at hx
    simp only [List.mem_singleton] at hx
    subst hx; exact h1
  exact {
    pl := h.pl, mi := h.mi, tn := h.tn, bn := h.bn, cn := h.cn, tr := h.tr, bl := h.bl
    st := key (Q := fun x => ∀ p ∈ x.st, 0 ≤ p ∧ p < f.pl) (h.st ⟨st, rs⟩ hm)
    rp := key (Q := fun x => ∀ r ∈ x.rp, 0 ≤ r.bl ∧ r.bl < f.bl.length) (fun r hr => by
      obtain ⟨r', h1, h2⟩ := bl_mem e hr
      rw [h2]; exact h.rp _ hm r' h1)
    rn := key (Q := fun x => x.rp.length ≤ 8) (by show rs'.length ≤ 8; rw [hl]; exact h.rn _ hm)
    ra := key (Q := fun x => againL sameR [] x.rp = false) (by show againL sameR [] rs' = false; rw [again_bl e rfl]; exact h.ra _ hm)
    ne := key (Q := fun x => 0 < x.st.length) (h.ne ⟨st, rs⟩ hm)
    asc := key (Q := fun x => ascL x.st = true) (h.asc ⟨st, rs⟩ hm) }
theorem bl_set {rs rs0 : List Rp} (e : rs.map Rp.bl = rs0.map Rp.bl) {k : Nat} {r : Rp} (h : rs[k]? = some r) (b : Bool) : (rs.set k ⟨r.bl, b⟩).map Rp.bl = rs0.map Rp.bl := by
  rw [← e]
  obtain ⟨h1, h2⟩ := List.getElem?_eq_some_iff.1 h
  rw [List.map_set]
  show (rs.map Rp.bl).set k r.bl = _
  rw [← h2]
  apply List.ext_getElem?
  intro i
  rw [List.getElem?_set]
  split
  · rename_i e; subst e; simp [h1]
  · rfl
end Go.Proofs.YtlonpgbapiemcaaGreat
