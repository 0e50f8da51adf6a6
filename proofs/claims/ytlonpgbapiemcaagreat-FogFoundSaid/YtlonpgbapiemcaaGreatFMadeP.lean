/- Fogs that are made of numbers, and reports that are true of a walk, as plain facts. No program stands here. -/
import Derived.Test.YtlonpgbapiemcaaGreatFFitP
import Derived.Test.YtlonpgbapiemcaaGreatFRingP
namespace Go.Proofs.YtlonpgbapiemcaaGreat
open Go Go.RowKit
set_option linter.unusedVariables false
set_option linter.unusedSimpArgs false

theorem again_snoc {α : Type} (same : α → α → Bool) (x : α) : ∀ (l pre : List α), againL same pre (l ++ [x]) = (againL same pre l || (pre ++ l).any (same x))
  | [], pre => by simp [againL]
  | y :: l, pre => by
    simp only [List.cons_append, againL, again_snoc same x l (pre ++ [y]), List.append_assoc, List.cons_append, List.nil_append, Bool.or_assoc]
theorem check_of {f : Fg} (h : FogOK f) (ht : agT f = false) : checkF f = 0 := by
  have h1 : manyF f = true := by
    unfold manyF
    simp only [Bool.and_eq_true, inB_iff, decide_eq_true_eq, List.all_eq_true]
    have hp := h.pl
    have hm := h.mi
    have hc := h.cn
    exact ⟨⟨⟨⟨⟨hp, hm⟩, h.tn⟩, h.bn⟩, by omega⟩, h.rn⟩
  have h2 : limF f = true := by
    unfold limF miOK
    simp only [Bool.and_eq_true, inB_iff, List.all_eq_true]
    exact fun b hb => ⟨(h.bl b hb).2.2, (h.bl b hb).1⟩
  have h3 : trF f = true := by
    unfold trF plOK
    simp only [Bool.and_eq_true, inB_iff, List.all_eq_true]
    exact fun t htt => by have := h.tr t htt; omega
  have h4 : bpF f = true := by
    unfold bpF plOK
    simp only [inB_iff, List.all_eq_true]
    exact fun b hb => by have := h.bl b hb; omega
  have h5 : ctF f = true := by
    unfold ctF plOK blOK
    simp only [Bool.and_eq_true, inB_iff, List.all_eq_true]
    exact fun c hc => ⟨fun p hp => by have := h.st c hc p hp; omega, fun r hr => by have := h.rp c hc r hr; omega⟩
  have h6 : difF f = true := by
    unfold difF
    simp only [List.all_eq_true, bne_iff_ne, ne_eq]
    exact fun t htt => (h.tr t htt).2.2
  have h7 : agR f = true := by
    unfold agR
    simp only [List.all_eq_true, Bool.not_eq_true']
    exact h.ra
  have h8 : neF f = true := by
    unfold neF
    simp only [List.all_eq_true, decide_eq_true_eq]
    exact h.ne
  have h9 : ordF f = true := by
    unfold ordF
    simp only [List.all_eq_true]
    exact h.asc
  unfold checkF
  rw [h1, h2, h3, h4, h5, h6, ht, h7, h8, h9]; rfl
/-- What a fog is that is made: up to so many places, minutes and carts. -/
structure MadeF (P M K : Nat) (f : Fg) : Prop where
  ok : FogOK f
  ag : agT f = false
  pl : 2 ≤ f.pl ∧ f.pl ≤ P
  mi : f.mi ≤ M
  ct : f.ct.length ≤ K
  rp : ∀ c ∈ f.ct, c.rp = []
theorem MadeF.check {P M K : Nat} {f : Fg} (h : MadeF P M K f) : checkF f = 0 := check_of h.ok h.ag
/-! ### Tracks -/
def TrOK (n : Int) (l : List (Int × Int)) : Prop := (∀ t ∈ l, (0 ≤ t.1 ∧ t.1 < n) ∧ (0 ≤ t.2 ∧ t.2 < n) ∧ t.1 ≠ t.2) ∧ againL sameT [] l = false
theorem TrOK.nil (n : Int) : TrOK n [] := ⟨fun t h => (by cases h), rfl⟩
theorem TrOK.snoc {n : Int} {l : List (Int × Int)} (h : TrOK n l) {t : Int × Int} (ht : (0 ≤ t.1 ∧ t.1 < n) ∧ (0 ≤ t.2 ∧ t.2 < n) ∧ t.1 ≠ t.2) (hn : l.any (sameT t) = false) : TrOK n (l ++ [t]) := by
  refine ⟨fun x hx => ?_, ?_⟩
  · rcases List.mem_append.1 hx with h1 | h1
    · exact h.1 x h1
    · simp only [List.mem_singleton] at h1; subst h1; exact ht
  · rw [again_snoc, h.2, List.nil_append, hn]; rfl
def besideL (l : List (Int × Int)) (a b : Int) : Bool := l.any fun t => (t.1 == a && t.2 == b) || (t.1 == b && t.2 == a)
theorem sameT_iff {a b : Int × Int} : sameT a b = true ↔ (a.1 = b.1 ∧ a.2 = b.2) ∨ (a.1 = b.2 ∧ a.2 = b.1) := by
  unfold sameT sides
  rw [beq_iff_eq, Prod.mk.injEq]
  omega
theorem besideL_same (l : List (Int × Int)) (a b : Int) : l.any (sameT (a, b)) = besideL l a b := by
  unfold besideL
  rw [Bool.eq_iff_iff]
  simp only [List.any_eq_true, Bool.or_eq_true, Bool.and_eq_true, beq_iff_eq]
  refine exists_congr fun t => and_congr_right fun _ => ?_
  rw [sameT_iff]
  constructor
  · rintro (⟨h1, h2⟩ | ⟨h1, h2⟩)
    · exact .inl ⟨h1.symm, h2.symm⟩
    · exact .inr ⟨h2.symm, h1.symm⟩
  · rintro (⟨h1, h2⟩ | ⟨h1, h2⟩)
    · exact .inl ⟨h1.symm, h2.symm⟩
    · exact .inr ⟨h2.symm, h1.symm⟩
theorem TrOK.tree {n : Int} {l : List (Int × Int)} (h : TrOK n l) {p q : Int} (hp : ∀ t ∈ l, t.1 < p ∧ t.2 < p) (h0 : 0 ≤ q) (h1 : q < p) (h2 : p < n) : TrOK n (l ++ [(p, q)]) := by
  refine h.snoc ⟨by dsimp only; omega, by dsimp only; omega, by dsimp only; omega⟩ ?_
  rw [Bool.eq_false_iff]
  intro e
  rw [List.any_eq_true] at e
  obtain ⟨t, ht, e⟩ := e
  have := hp t ht
  rw [sameT_iff] at e
  dsimp only at e
  omega
/-! ### A real walk -/
structure RealW (f : Fg) (c : Ct) (l : List Int) : Prop where
  len : l.length = f.mi.toNat + 1
  pl : ∀ x ∈ l, 0 ≤ x ∧ x < f.pl
  st : l.getD 0 0 ∈ c.st
  step : ∀ i, i < f.mi.toNat → l.getD i 0 = l.getD (i + 1) 0 ∨ besideL f.tr (l.getD i 0) (l.getD (i + 1) 0) = true
/-- Reports that are true of a walk. -/
structure TrueR (f : Fg) (l : List Int) (rs : List Rp) : Prop where
  bl : ∀ r ∈ rs, 0 ≤ r.bl ∧ r.bl < f.bl.length
  one : againL sameR [] rs = false
  len : rs.length ≤ 8
  hd : ∀ r ∈ rs, r.hd = hearsL2 (farM f) f l r.bl
theorem mem_set {α : Type} {l : List α} {k : Nat} {x y : α} (h : y ∈ l.set k x) : y = x ∨ y ∈ l := by
  rcases List.mem_or_eq_of_mem_set h with h | h
  · exact .inr h
  · exact .inl h
/-- The fog with reports of one cart. -/
def withR (f : Fg) (k : Nat) (c : Ct) (rs : List Rp) : Fg := { f with ct := f.ct.set k ⟨c.st, rs⟩ }
theorem withR_ok {f : Fg} (h : FogOK f) {k : Nat} {c : Ct} (hc : f.ct[k]? = some c) {rs : List Rp} (hb : ∀ r ∈ rs, 0 ≤ r.bl ∧ r.bl < f.bl.length) (ho : againL sameR [] rs = false) (hn : rs.length ≤ 8) : FogOK (withR f k c rs) := by
  have hm := List.mem_of_getElem? hc
  have key : ∀ {Q : Ct → Prop}, (∀ x ∈ f.ct, Q x) → Q ⟨c.st, rs⟩ → ∀ x ∈ f.ct.set k ⟨c.st, rs⟩, Q x := fun h1 h2 x hx => by
    rcases mem_set hx with rfl | h
    · exact h2
    · exact h1 x h
  exact {
    pl := h.pl, mi := h.mi, tn := h.tn, bn := h.bn, cn := by unfold withR; simp only [List.length_set]; exact h.cn
    tr := h.tr, bl := h.bl
    st := key (Q := fun x => ∀ p ∈ x.st, 0 ≤ p ∧ p < f.pl) h.st (h.st c hm)
    rp := key (Q := fun x => ∀ r ∈ x.rp, 0 ≤ r.bl ∧ r.bl < f.bl.length) h.rp hb
    rn := key (Q := fun x => x.rp.length ≤ 8) h.rn hn
    ra := key (Q := fun x => againL sameR [] x.rp = false) h.ra ho
    ne := key (Q := fun x => 0 < x.st.length) h.ne (h.ne c hm)
    asc := key (Q := fun x => ascL x.st = true) h.asc (h.asc c hm) }
theorem withR_far (f : Fg) (k : Nat) (c : Ct) (rs : List Rp) : farM (withR f k c rs) = farM f := rfl
theorem withR_at {f : Fg} {k : Nat} {c : Ct} (hc : f.ct[k]? = some c) (rs : List Rp) : (withR f k c rs).ct[k]? = some ⟨c.st, rs⟩ := by
  unfold withR
  have := (List.getElem?_eq_some_iff.1 hc).1
  simp [List.getElem?_set, this]
theorem besideL_far {f : Fg} (h : FogOK f) {a b : Nat} (ha : a < 8) (hb : b < 8) (e : besideL f.tr (a : Int) (b : Int) = true) : farM f a b ≤ 1 := by
  have : Go_ f (0 + 1) a b := by
    unfold besideL at e
    rw [List.any_eq_true] at e
    obtain ⟨t, ht, e⟩ := e
    simp only [Bool.or_eq_true, Bool.and_eq_true, beq_iff_eq] at e
    exact (Go_.here a).step ⟨t, ht, e⟩
  have := ((far_ok h).iff h ha hb (n := 0 + 1) (by unfold noWay; omega)).1 this
  omega
/-- A real walk fits a cart that says what is true of it. -/
theorem real_fits {f : Fg} (h : FogOK f) {c : Ct} {l : List Int} (hw : RealW f c l) (hr : ∀ r ∈ c.rp, r.hd = hearsL2 (farM f) f l r.bl) : fitsM (farM f) f c l = true := by
  have hp := h.pl
  unfold fitsM
  simp only [Bool.and_eq_true, decide_eq_true_eq]
  refine ⟨⟨⟨⟨hw.len, ?_⟩, mem_memI.2 hw.st⟩, ?_⟩, ?_⟩
  · rw [List.all_eq_true]
    exact fun x hx => plOK_iff2.2 (hw.pl x hx)
  · unfold stepsL
    rw [List.all_eq_true]
    intro i hi
    have hi' := List.mem_range.1 hi
    have key : ∀ j, j ≤ f.mi.toNat → 0 ≤ l.getD j 0 ∧ l.getD j 0 < f.pl := fun j hj => by
      have := hw.len
      rw [List.getD_eq_getElem?_getD, List.getElem?_eq_getElem (by omega)]
      exact hw.pl _ (List.getElem_mem _)
    have k1 := key i (by omega)
    have k2 := key (i + 1) (by omega)
    rw [decide_eq_true_eq]
    rcases hw.step i hi' with e | e
    · unfold wlAt
      rw [e, (far_ok h).dst.self _ (by omega)]; omega
    · refine besideL_far h (by unfold wlAt; omega) (by unfold wlAt; omega) ?_
      unfold wlAt
      rwa [Int.toNat_of_nonneg k1.1, Int.toNat_of_nonneg k2.1]
  · unfold heardAll
    rw [List.all_eq_true]
    intro r hrr
    rw [hr r hrr]; simp
end Go.Proofs.YtlonpgbapiemcaaGreat
