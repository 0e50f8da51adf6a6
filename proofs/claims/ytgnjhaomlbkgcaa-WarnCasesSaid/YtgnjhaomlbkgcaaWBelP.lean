/- A case with the claims of some witnesses alone; the plain laws of WarnLiars and WarnNeeded. No program stands here. -/
import Derived.Test.YtgnjhaomlbkgcaaWFewP
import Derived.Test.YtgnjhaomlbkgcaaWMadeP
import Derived.Test.YtgnjhaomlbkgcaaWLiars2
namespace Go.Proofs.Ytgnjhaomlbkgcaa
open Go Go.RowKit
set_option linter.unusedVariables false
set_option linter.unusedSimpArgs false

def Cs.believe (tf : Int → Bool) (c : Cs) : Cs := { c with cl := c.cl.filter fun x => tf x.w }
theorem belL_split (tf : Int → Bool) (c : Cs) : belL tf c = c.bs ++ (c.cl.filter fun x => tf x.w).flatMap (·.bs) := by
  have h : ∀ (l : List Cl) (n : Nat), (clNum tf n l).map (·.2) = (l.filter fun x => tf x.w).flatMap (·.bs) := by
    intro l
    induction l with
    | nil => intro n; rfl
    | cons x l ih =>
      intro n
      simp only [clNum, List.map_append, ih, List.filter_cons]
      cases hq : tf x.w
      · simp
      · simp [numFrom_snd']
  unfold belL belNum
  rw [List.map_append, numFrom_snd', h]
theorem believe_all (tf : Int → Bool) (c : Cs) : (c.believe tf).all = belL tf c := by rw [belL_split]; rfl
theorem believe_gaps (tf : Int → Bool) (c : Cs) : gapsM allT (c.believe tf) = gapsM tf c := by
  have h1 : belL allT (c.believe tf) = belL tf c := by rw [belL_all, believe_all]
  unfold gapsM
  unfold belL at h1
  rw [h1]
theorem gaps_congr {tf tf' : Int → Bool} {c : Cs} (h : ∀ x ∈ c.cl, tf x.w = tf' x.w) : gapsM tf c = gapsM tf' c := by
  have h1 : belL tf c = belL tf' c := by
    rw [belL_split, belL_split]
    congr 2
    exact List.filter_congr h
  unfold gapsM
  unfold belL at h1
  rw [h1]
theorem believe_check {c : Cs} (h : checkC c = 0) (tf : Int → Bool) : checkC (c.believe tf) = 0 := by
  obtain ⟨h1, h2, h3, h4, h5⟩ := checkC_ok h
  obtain ⟨e1, e2, e3, e4, e5, e6, e7⟩ := manyOK_parts h1
  have hm : ∀ {x : Cl}, x ∈ (c.believe tf).cl → x ∈ c.cl := fun {x} hx => (List.mem_filter.1 (show x ∈ c.cl.filter _ from hx)).1
  refine checkC_of ⟨e1, e2⟩ e3 ⟨e4, e5⟩ (Nat.le_trans (show (c.cl.filter _).length ≤ _ from List.length_filter_le _ _) e6) (fun x hx => ?_) (fun b hb => ?_)
  · simp only [witOK, List.all_eq_true, inB_iff] at h4
    have := h4 x (hm hx)
    exact ⟨e7 x (hm hx), this.1, by show x.w < c.wi; omega⟩
  · rw [believe_all] at hb
    have hb' : b ∈ c.all := bel_mem' hb
    obtain ⟨p1, p2⟩ := evOK_get h3 hb'
    have p3 := limOK_get h2 hb'
    simp only [diffOK, List.all_eq_true] at h5
    have p4 := h5 b hb'
    exact ⟨p1, p2, by simpa using p4, p3⟩
theorem believe_told {c : Cs} (h : checkC c = 0) (tf : Int → Bool) : toldC (c.believe tf) = if clashM (gapsM tf c) then 7 else 0 := by
  unfold toldC
  rw [if_pos (believe_check h tf), believe_gaps]
theorem mem_memI {x : Int} {l : List Int} : memI x l = true ↔ x ∈ l := by
  unfold memI
  rw [List.any_eq_true]
  constructor
  · rintro ⟨y, hy, e⟩
    have : x = y := by simpa using e
    rw [this]; exact hy
  · exact fun h => ⟨x, h, by simp⟩
/-- The witnesses of a kind, as a list. -/
def someW (P : Nat → Bool) (wi : Nat) : List Int := ((List.range wi).filter P).map fun n : Nat => (n : Int)
theorem someW_asc (P : Nat → Bool) (wi : Nat) : Asc 0 wi (someW P wi) := by
  unfold someW
  rw [List.range_eq_range']
  exact Asc.filter P wi wi 0 (by omega)
theorem mem_someW {P : Nat → Bool} {wi : Nat} {x : Int} : x ∈ someW P wi ↔ 0 ≤ x ∧ x < wi ∧ P x.toNat = true := by
  unfold someW
  simp only [List.mem_map, List.mem_filter, List.mem_range]
  constructor
  · rintro ⟨n, ⟨h1, h2⟩, rfl⟩
    exact ⟨by omega, by omega, by rw [Int.toNat_natCast]; exact h2⟩
  · rintro ⟨h1, h2, h3⟩
    exact ⟨x.toNat, ⟨by omega, h3⟩, by omega⟩
theorem someW_snoc (P : Nat → Bool) (k : Nat) : someW P (k + 1) = someW P k ++ if P k then [(k : Int)] else [] := by
  unfold someW
  rw [List.range_succ, List.filter_append, List.map_append]
  congr 1
  simp only [List.filter_cons, List.filter_nil]
  split <;> rfl
theorem someW_len (P : Nat → Bool) (k : Nat) : (someW P k).length ≤ k := by
  unfold someW
  rw [List.length_map]
  exact Nat.le_trans (List.length_filter_le _ _) (by simp)

/-- A witness has a claim of which a bound is not true. -/
def liedP (c : Cs) (t : Nat → Int) (n : Nat) : Bool := c.cl.any fun x => x.w == (n : Int) && !(x.bs.all fun b => decide (t b.t.toNat ≤ t b.f.toNat + b.m))

theorem wits {c : Cs} (h : checkC c = 0) : ∀ x ∈ c.cl, 0 ≤ x.w ∧ x.w < c.wi := fun x hx => by
  have := (checkC_ok h).2.2.2.1
  simp only [witOK, List.all_eq_true, inB_iff] at this
  have := this x hx
  omega
structure LiarsOK (c : Cs) (real : List Int) (l : List Int) : Prop where
  few : fewL (liarsP c) c.wi.toNat = some l
  asc : Asc 0 c.wi.toNat l
  len : l.length ≤ (someW (liedP c (fun k => real.getD k 0)) c.wi.toNat).length
  sets : ∀ P : Nat → Bool, (toldC (c.believe (fun x => memI x (someW (fun n => !P n) c.wi.toNat))) = 0 ∨ toldC (c.believe (fun x => memI x (someW (fun n => !P n) c.wi.toNat))) = 7) ∧
    (someW P c.wi.toNat = l → toldC (c.believe (fun x => memI x (someW (fun n => !P n) c.wi.toNat))) ≠ 7) ∧ (fewerL (someW P c.wi.toNat) l = true → toldC (c.believe (fun x => memI x (someW (fun n => !P n) c.wi.toNat))) ≠ 0)
theorem liars_ok {c : Cs} {real : List Int} (h0 : checkC c = 0) (hb : ∀ b ∈ c.bs, real.getD b.t.toNat 0 ≤ real.getD b.f.toNat 0 + b.m) : ∃ l, LiarsOK c real l := by
  have hw := wits h0
  have hlied : liarsP c (someW (liedP c (fun k => real.getD k 0)) c.wi.toNat) = true := by
    unfold liarsP
    rw [clash_of h0]
    · rfl
    · refine TruthOf.fine (t := fun k => real.getD k 0) fun b hq => ?_
      rw [belL_split, List.mem_append] at hq
      rcases hq with hq | hq
      · exact hb b hq
      · obtain ⟨x, hx, hbx⟩ := List.mem_flatMap.1 hq
        obtain ⟨hx1, hx2⟩ := List.mem_filter.1 hx
        have hwx := hw x hx1
        have hn : ¬ x.w ∈ someW (liedP c (fun k => real.getD k 0)) c.wi.toNat := fun hm => by
          rw [mem_memI.2 hm] at hx2; simp at hx2
        rw [mem_someW] at hn
        have h1 : liedP c (fun k => real.getD k 0) x.w.toNat = false := by
          rw [Bool.eq_false_iff]
          intro h1
          exact hn ⟨hwx.1, by omega, h1⟩
        unfold liedP at h1
        rw [List.any_eq_false] at h1
        have h2 := h1 x hx1
        simp only [Bool.and_eq_true, beq_iff_eq, Bool.not_eq_true', not_and, Bool.not_eq_false] at h2
        have h3 := List.all_eq_true.1 (h2 (by omega)) b hbx
        simpa using h3
  rcases hf : fewL (liarsP c) c.wi.toNat with _ | l
  · have := fewL_none hf _ (someW_asc (liedP c (fun k => real.getD k 0)) c.wi.toNat)
    rw [hlied] at this; cases this
  · obtain ⟨h1, h2, h3⟩ := fewL_some hf
    have hgone : ∀ P : Nat → Bool, toldC (c.believe (fun x => memI x (someW (fun n => !P n) c.wi.toNat))) = if liarsP c (someW P c.wi.toNat) then 0 else 7 := fun P => by
      rw [believe_told h0]
      have e : gapsM (fun x => memI x (someW (fun n => !P n) c.wi.toNat)) c = gapsM (fun n => !memI n (someW P c.wi.toNat)) c := gaps_congr fun x hx => by
        have hwx := hw x hx
        have m1 := mem_memI (x := x.w) (l := someW (fun n => !P n) c.wi.toNat)
        have m2 := mem_memI (x := x.w) (l := someW P c.wi.toNat)
        rw [mem_someW] at m1 m2
        have hlt : x.w < (c.wi.toNat : Int) := by omega
        cases hp : P x.w.toNat
        · have q1 := m1.2 ⟨hwx.1, hlt, by rw [hp]; rfl⟩
          have q2 : memI x.w (someW P c.wi.toNat) = false := by
            rw [Bool.eq_false_iff]; intro hh
            have := (m2.1 hh).2.2
            rw [hp] at this; cases this
          rw [q1, q2]; rfl
        · have q1 := m2.2 ⟨hwx.1, hlt, hp⟩
          have q2 : memI x.w (someW (fun n => !P n) c.wi.toNat) = false := by
            rw [Bool.eq_false_iff]; intro hh
            have := (m1.1 hh).2.2
            rw [hp] at this; cases this
          rw [q1, q2]; rfl
      rw [e]
      unfold liarsP
      cases clashM (gapsM (fun n => !memI n (someW P c.wi.toNat)) c) <;> rfl
    refine ⟨l, hf, h1, ?_, fun P => ⟨?_, fun e => ?_, fun hfew => ?_⟩⟩
    · rcases Nat.lt_or_ge (someW (liedP c (fun k => real.getD k 0)) c.wi.toNat).length l.length with h4 | h4
      · have := h3 (someW (liedP c (fun k => real.getD k 0)) c.wi.toNat) (someW_asc _ _) (by unfold fewerL; rw [decide_eq_true h4]; rfl)
        rw [hlied] at this; cases this
      · exact h4
    · rw [hgone]; split <;> simp
    · rw [hgone, e, h2]; simp
    · rw [hgone, h3 _ (someW_asc _ _) hfew]; simp

/-! ### What is needed -/
theorem gap_mono {tf tf' : Int → Bool} {c : Cs} (h0 : checkC c = 0) (hf : Fine c.all) (hs : ∀ x ∈ c.cl, tf x.w = true → tf' x.w = true) {a b : Nat} (ha : a < 8) (hb : b < 8) (hn : gapsM tf c a b < 0) : gapsM tf' c a b < 0 := by
  have hsub : ∀ x ∈ belL tf c, x ∈ belL tf' c := fun x hx => by
    rw [belL_split, List.mem_append] at *
    rcases hx with hx | hx
    · exact .inl hx
    · obtain ⟨y, hy, hxy⟩ := List.mem_flatMap.1 hx
      obtain ⟨h1, h2⟩ := List.mem_filter.1 hy
      exact .inr (List.mem_flatMap.2 ⟨y, List.mem_filter.2 ⟨h1, hs y h1 h2⟩, hxy⟩)
  have hf' : Fine (belL tf' c) := fun v l hv hr => hf v l hv (hr.mono fun x hx => bel_mem' hx)
  obtain ⟨l, hl, he⟩ := gap_row h0 ha hb (fun e => by rw [e] at hn; unfold far at hn; omega)
  have := gap_le h0 hf' ha hb (hl.mono hsub)
  omega
theorem verdict_yes {g : Mat} {a b : Nat} : verdictM g a b = 1 ↔ g b a < 0 := by
  unfold verdictM
  by_cases h : g b a < 0
  · simp [h]
  · rw [if_neg h]
    constructor
    · intro h2; split at h2 <;> omega
    · intro h2; exact absurd h2 h
structure NeededOK (c : Cs) (a b : Nat) : Prop where
  yes : neededC c a b = 0 ↔ (beforeOf c a b).1 = 1
  code : neededC c a b = 0 ∨ neededC c a b = 6
  few : ∀ l, fewL (neededP c a b) c.wi.toNat = some l → Asc 0 c.wi.toNat l ∧ ∀ P : Nat → Bool, ((beforeOf (c.believe (fun x => memI x (someW P c.wi.toNat))) a b).1 = 1 → fewerL (someW P c.wi.toNat) l = false) ∧
    (someW P c.wi.toNat = l → (beforeOf (c.believe (fun x => memI x (someW P c.wi.toNat))) a b).1 = 1) ∧ ((∀ n ∈ l, n ∈ someW P c.wi.toNat) → (beforeOf (c.believe (fun x => memI x (someW P c.wi.toNat))) a b).1 = 1)
  sets : ∀ P : Nat → Bool, (beforeOf (c.believe (fun x => memI x (someW P c.wi.toNat))) a b).2 = 0 ∧ ((beforeOf (c.believe (fun x => memI x (someW P c.wi.toNat))) a b).1 = 1 → (beforeOf c a b).1 = 1)
theorem needed_ok {c : Cs} (h0 : checkC c = 0) (hf : Fine c.all) {a b : Nat} (ha : (a : Int) < c.ev) (hb : (b : Int) < c.ev) : NeededOK c a b := by
  have hw := wits h0
  have hev := checkC_ev h0
  have a8 : a < 8 := by omega
  have b8 : b < 8 := by omega
  have hask := asked_two h0 hf ha hb
  have hbel : ∀ tf, Fine (c.believe tf).all := fun tf => by
    rw [believe_all]
    exact fun v l hv hr => hf v l hv (hr.mono fun x hx => bel_mem' hx)
  have hset : ∀ P : Nat → Bool, beforeOf (c.believe (fun x => memI x (someW P c.wi.toNat))) a b = (verdictM (gapsM (fun x => memI x (someW P c.wi.toNat)) c) a b, 0) := fun P => by
    rw [before_is (believe_check h0 _) (hbel _) (c := c.believe _) ha hb, believe_gaps]
  have hall : gapsM (fun x => memI x (someW (fun _ => true) c.wi.toNat)) c = gapsM allT c := gaps_congr fun x hx => by
    have := hw x hx
    rw [mem_memI.2 (mem_someW.2 ⟨this.1, by omega, rfl⟩)]; rfl
  have hb1 : (beforeOf c a b).1 = 1 ↔ gapsM allT c b a < 0 := by
    rw [before_is h0 hf ha hb]; exact verdict_yes
  have hcode : neededC c a b = match fewL (neededP c a b) c.wi.toNat with | some _ => 0 | none => 6 := by
    unfold neededC
    rw [if_neg (by simpa using hask)]
    simp only [Int.toNat_natCast]
    rfl
  have hnp : ∀ l, neededP c a b l = true ↔ gapsM (fun n => memI n l) c b a < 0 := fun l => by
    unfold neededP
    rw [beq_iff_eq, verdict_yes]
  refine ⟨?_, ?_, fun l hl => ?_, fun P => ?_⟩
  · rw [hcode, hb1]
    rcases hq : fewL (neededP c a b) c.wi.toNat with _ | l
    · simp only
      constructor
      · intro h; omega
      · intro h
        have := fewL_none hq _ (someW_asc (fun _ => true) c.wi.toNat)
        rw [← Bool.not_eq_true, hnp, hall] at this
        exact absurd h this
    · simp only [true_iff]
      have := (hnp l).1 (fewL_some hq).2.1
      exact gap_mono h0 hf (fun _ _ _ => rfl) b8 a8 this
  · rw [hcode]
    rcases fewL (neededP c a b) c.wi.toNat with _ | l <;> simp
  · obtain ⟨h1, h2, h3⟩ := fewL_some hl
    refine ⟨h1, fun P => ⟨fun hy => ?_, fun e => ?_, fun hs => ?_⟩⟩
    · rw [hset] at hy
      rw [Bool.eq_false_iff]
      intro hfew
      have := h3 _ (someW_asc _ _) hfew
      rw [← Bool.not_eq_true, hnp] at this
      exact this (verdict_yes.1 hy)
    · rw [hset, e]
      exact verdict_yes.2 ((hnp l).1 h2)
    · rw [hset]
      refine verdict_yes.2 (gap_mono h0 hf (fun x _ hm => ?_) b8 a8 ((hnp l).1 h2))
      exact mem_memI.2 (hs x.w (mem_memI.1 hm))
  · rw [hset]
    refine ⟨rfl, fun hy => hb1.2 (gap_mono h0 hf (fun _ _ _ => rfl) b8 a8 (verdict_yes.1 hy))⟩
end Go.Proofs.Ytgnjhaomlbkgcaa
