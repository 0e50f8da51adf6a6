/- What the cases that Made makes are, and cases with changed bounds. No program stands here. -/
import Derived.Test.YtgnjhaomlbkgcaaWPath
import Derived.Test.YtgnjhaomlbkgcaaWAsk
namespace Go.Proofs.Ytgnjhaomlbkgcaa
open Go Go.RowKit
set_option linter.unusedVariables false
set_option linter.unusedSimpArgs false

/-- Bounds of a case that was made: two events, and minutes that there really were, but for so many. -/
def bdMade (ev : Int) (real : List Int) (lo hi : Int) (b : Bd) : Prop :=
  (0 ≤ b.f ∧ b.f < ev) ∧ (0 ≤ b.t ∧ b.t < ev) ∧ b.f ≠ b.t ∧ real.getD b.t.toNat 0 - real.getD b.f.toNat 0 + lo ≤ b.m ∧ b.m ≤ real.getD b.t.toNat 0 - real.getD b.f.toNat 0 + hi
structure MadeOK (evm bm cm : Nat) (lo : Int) (c : Cs) (real : List Int) : Prop where
  ev2 : 2 ≤ c.ev
  evm : c.ev ≤ evm
  len : (real.length : Int) = c.ev
  real0 : real.getD 0 0 = 0
  real_ : ∀ x ∈ real, -40 ≤ x ∧ x ≤ 90
  wi : 0 ≤ c.wi ∧ c.wi ≤ 6
  bsl : c.bs.length ≤ bm
  cll : c.cl.length ≤ cm
  bs : ∀ b ∈ c.bs, bdMade c.ev real 0 25 b
  cl : ∀ x ∈ c.cl, (0 ≤ x.w ∧ x.w < c.wi) ∧ x.bs.length ≤ 3 ∧ ∀ b ∈ x.bs, bdMade c.ev real lo 12 b
theorem all_mem {c : Cs} {b : Bd} : b ∈ c.all ↔ b ∈ c.bs ∨ ∃ x ∈ c.cl, b ∈ x.bs := by
  unfold Cs.all
  rw [List.mem_append, List.mem_flatMap]
theorem getD_real {real : List Int} (h : ∀ x ∈ real, -40 ≤ x ∧ x ≤ 90) (k : Nat) : -40 ≤ real.getD k 0 ∧ real.getD k 0 ≤ 90 := by
  rw [List.getD_eq_getElem?_getD]
  rcases hk : real[k]? with _ | y
  · simp
  · exact h y (List.mem_of_getElem? hk)
theorem MadeOK.all_ {evm bm cm : Nat} {lo : Int} {c : Cs} {real : List Int} (h : MadeOK evm bm cm lo c real) (hlo : lo ≤ 0) : ∀ b ∈ c.all, bdMade c.ev real lo 25 b := by
  intro b hb
  rcases all_mem.1 hb with h1 | ⟨x, hx, h1⟩
  · obtain ⟨p1, p2, p3, p4, p5⟩ := h.bs b h1
    exact ⟨p1, p2, p3, by omega, p5⟩
  · obtain ⟨p1, p2, p3, p4, p5⟩ := (h.cl x hx).2.2 b h1
    exact ⟨p1, p2, p3, p4, by omega⟩
/-- A case with the numbers that there may be is right. -/
theorem checkC_of {c : Cs} (ev : 1 ≤ c.ev ∧ c.ev ≤ 8) (bl : c.bs.length ≤ 20) (wi : 0 ≤ c.wi ∧ c.wi ≤ 6) (cl : c.cl.length ≤ 8) (each : ∀ x ∈ c.cl, x.bs.length ≤ 4 ∧ 0 ≤ x.w ∧ x.w < c.wi)
    (hb : ∀ b ∈ c.all, (0 ≤ b.f ∧ b.f < c.ev) ∧ (0 ≤ b.t ∧ b.t < c.ev) ∧ b.f ≠ b.t ∧ -1000 ≤ b.m ∧ b.m ≤ 1000) : checkC c = 0 := by
  have h1 : manyOK c = true := by
    simp only [manyOK, Bool.and_eq_true, inB_iff, decide_eq_true_eq, eachOK, List.all_eq_true]
    exact ⟨⟨⟨⟨ev, bl⟩, wi⟩, cl⟩, fun x hx => (each x hx).1⟩
  have h2 : limOK c.all = true := by
    simp only [limOK, List.all_eq_true]
    exact fun b hq => inB_iff.2 (hb b hq).2.2.2
  have h3 : evOK c.ev c.all = true := by
    simp only [evOK, List.all_eq_true, Bool.and_eq_true, inB_iff]
    exact fun b hq => ⟨⟨(hb b hq).1.1, by have := (hb b hq).1.2; omega⟩, (hb b hq).2.1.1, by have := (hb b hq).2.1.2; omega⟩
  have h4 : witOK c.wi c.cl = true := by
    simp only [witOK, List.all_eq_true, inB_iff]
    exact fun x hx => ⟨(each x hx).2.1, by have := (each x hx).2.2; omega⟩
  have h5 : diffOK c.all = true := by
    simp only [diffOK, List.all_eq_true]
    exact fun b hq => by simpa using (hb b hq).2.2.1
  have h6 : bdsC c.ev c.all = 0 := by unfold bdsC; rw [h2, h3]; rfl
  unfold checkC
  rw [h1, h6, h4, h5]; rfl
theorem MadeOK.check {evm bm cm : Nat} {lo : Int} {c : Cs} {real : List Int} (h : MadeOK evm bm cm lo c real) (hlo : lo ≤ 0) (hlo2 : -500 ≤ lo) (he : evm ≤ 8) (hb : bm ≤ 20) (hc : cm ≤ 8) : checkC c = 0 := by
  refine checkC_of ⟨by have := h.ev2; omega, by have := h.evm; omega⟩ (Nat.le_trans h.bsl hb) h.wi (Nat.le_trans h.cll hc) (fun x hx => ⟨by have := (h.cl x hx).2.1; omega, (h.cl x hx).1⟩) (fun b hq => ?_)
  obtain ⟨p1, p2, p3, p4, p5⟩ := h.all_ hlo b hq
  have r1 := getD_real h.real_ b.t.toNat
  have r2 := getD_real h.real_ b.f.toNat
  exact ⟨p1, p2, p3, by omega, by omega⟩
theorem MadeOK.truth {evm bm cm : Nat} {c : Cs} {real : List Int} (h : MadeOK evm bm cm 0 c real) : TruthOf c.all (fun k => real.getD k 0) := by
  intro b hq
  obtain ⟨p1, p2, p3, p4, p5⟩ := h.all_ (Int.le_refl _) b hq
  show real.getD _ 0 ≤ real.getD _ 0 + b.m
  omega

/-! ### Cases with changed bounds -/
def Cs.map (f : Bd → Bd) (c : Cs) : Cs := { c with bs := c.bs.map f, cl := c.cl.map fun x => { x with bs := x.bs.map f } }
theorem map_all (f : Bd → Bd) (c : Cs) : (c.map f).all = c.all.map f := by
  unfold Cs.all Cs.map
  simp only [List.map_append, List.map_flatMap, List.flatMap_map]
theorem map_check {f : Bd → Bd} {c : Cs} (h : checkC c = 0) (hf : ∀ b ∈ c.all, (0 ≤ (f b).f ∧ (f b).f < c.ev) ∧ (0 ≤ (f b).t ∧ (f b).t < c.ev) ∧ (f b).f ≠ (f b).t ∧ -1000 ≤ (f b).m ∧ (f b).m ≤ 1000) : checkC (c.map f) = 0 := by
  obtain ⟨h1, _, _, h4, _⟩ := checkC_ok h
  obtain ⟨e1, e2, e3, e4, e5, e6, e7⟩ := manyOK_parts h1
  refine checkC_of ⟨e1, e2⟩ (by show (c.bs.map f).length ≤ 20; simpa using e3) ⟨e4, e5⟩ (by show (c.cl.map _).length ≤ 8; simpa using e6) (fun x hx => ?_) (fun b hb => ?_)
  · obtain ⟨y, hy, rfl⟩ := List.mem_map.1 hx
    simp only [witOK, List.all_eq_true, inB_iff] at h4
    have := h4 y hy
    refine ⟨by simpa using e7 y hy, this.1, ?_⟩
    show y.w < c.wi
    omega
  · rw [map_all] at hb
    obtain ⟨y, hy, rfl⟩ := List.mem_map.1 hb
    exact hf y hy
/-- Gaps of two cases whose rows go from each into the other. -/
theorem gap_over {c c' : Cs} (h : checkC c = 0) (h' : checkC c' = 0) (hf : Fine c.all) (hf' : Fine c'.all) {a b a' b' : Nat} (ha : a < 8) (hb : b < 8) (ha' : a' < 8) (hb' : b' < 8) (d : Int)
    (F : ∀ l, Row c.all a b l → ∃ m, Row c'.all a' b' m ∧ sumW m = sumW l + d) (G : ∀ m, Row c'.all a' b' m → ∃ l, Row c.all a b l ∧ sumW m = sumW l + d) :
    (gapsM allT c a b = far ∧ gapsM allT c' a' b' = far) ∨ (gapsM allT c a b ≠ far ∧ gapsM allT c' a' b' ≠ far ∧ gapsM allT c' a' b' = gapsM allT c a b + d) := by
  rw [← belL_all] at hf hf'
  rw [← belL_all c, ← belL_all c'] at F G
  by_cases h1 : gapsM allT c a b = far
  · by_cases h2 : gapsM allT c' a' b' = far
    · exact .inl ⟨h1, h2⟩
    · obtain ⟨m, hm, _⟩ := gap_row h' ha' hb' h2
      obtain ⟨l, hl, _⟩ := G m hm
      exact absurd h1 (gap_lt_far h hf ha hb hl)
  · obtain ⟨l, hl, hs⟩ := gap_row h ha hb h1
    obtain ⟨m, hm, hms⟩ := F l hl
    have h2 := gap_lt_far h' hf' ha' hb' hm
    obtain ⟨m2, hm2, hs2⟩ := gap_row h' ha' hb' h2
    obtain ⟨l2, hl2, hls2⟩ := G m2 hm2
    have q1 := gap_le h hf ha hb hl2
    have q2 := gap_le h' hf' ha' hb' hm
    exact .inr ⟨h1, h2, by omega⟩
theorem row_map {f : Bd → Bd} {L : List Bd} (hf : ∀ x ∈ L, (f x).f = x.f ∧ (f x).t = x.t) : ∀ {l : List Bd} {a b : Nat}, Row L a b l → Row (L.map f) a b (l.map f) := by
  intro l
  induction l with
  | nil => intro a b h; have := h.end_; simp only [endW] at this; subst this; exact Row.nil _ _
  | cons x l ih =>
    intro a b h
    obtain ⟨rfl, h2⟩ := h.chn
    have h3 := ih (a := x.t.toNat) (b := b) ⟨fun y hy => h.mem y (by simp [hy]), h2, h.end_⟩
    obtain ⟨e1, e2⟩ := hf x (h.mem x (by simp))
    have h4 := Row.one (L := L.map f) (x := f x) (List.mem_map.2 ⟨x, h.mem x (by simp), rfl⟩)
    rw [e1, e2] at h4
    exact h4.app h3
/-- All minutes but those of the beginning later by as much. -/
def laterB (by_ : Int) (b : Bd) : Bd := if b.f = 0 then ⟨b.f, b.t, b.m + by_⟩ else if b.t = 0 then ⟨b.f, b.t, b.m - by_⟩ else b
def phi (by_ : Int) (x : Nat) : Int := if x = 0 then 0 else by_
theorem laterB_m {by_ : Int} {b : Bd} (h : b.f ≠ b.t) (hf : 0 ≤ b.f) (ht : 0 ≤ b.t) : laterB by_ b = ⟨b.f, b.t, b.m + phi by_ b.t.toNat - phi by_ b.f.toNat⟩ := by
  unfold laterB phi
  by_cases h1 : b.f = 0
  · rw [if_pos h1, if_neg (by omega), if_pos (by omega)]; simp
  · rw [if_neg h1]
    by_cases h2 : b.t = 0
    · rw [if_pos h2, if_pos (by omega), if_neg (by omega)]; simp
    · rw [if_neg h2, if_neg (by omega), if_neg (by omega)]; obtain ⟨f, t, m⟩ := b; simp only; congr 1; omega
theorem sum_phi {by_ : Int} (L : List Bd) (hL : ∀ b ∈ L, b.f ≠ b.t ∧ 0 ≤ b.f ∧ 0 ≤ b.t) : ∀ {l : List Bd} {a b : Nat}, Row L a b l → sumW (l.map (laterB by_)) = sumW l + (phi by_ b - phi by_ a) := by
  intro l
  induction l with
  | nil => intro a b h; have := h.end_; simp only [endW] at this; subst this; simp [sumW]
  | cons x l ih =>
    intro a b h
    obtain ⟨rfl, h2⟩ := h.chn
    have h3 := ih (a := x.t.toNat) (b := b) ⟨fun y hy => h.mem y (by simp [hy]), h2, h.end_⟩
    obtain ⟨p1, p2, p3⟩ := hL x (h.mem x (by simp))
    simp only [List.map_cons, sumW, h3, laterB_m p1 p2 p3]
    omega
def earlyB (by_ : Int) (b : Bd) : Bd := ⟨b.f, b.t, b.m - phi by_ b.t.toNat + phi by_ b.f.toNat⟩
theorem early_later {by_ : Int} {b : Bd} (h : b.f ≠ b.t ∧ 0 ≤ b.f ∧ 0 ≤ b.t) : earlyB by_ (laterB by_ b) = b := by
  rw [laterB_m h.1 h.2.1 h.2.2]
  unfold earlyB
  simp only
  obtain ⟨f, t, m⟩ := b
  simp only at h ⊢
  congr 1
  omega
theorem later_ft (by_ : Int) (b : Bd) : (laterB by_ b).f = b.f ∧ (laterB by_ b).t = b.t := by
  unfold laterB
  split
  · exact ⟨rfl, rfl⟩
  · split <;> exact ⟨rfl, rfl⟩
theorem map_back {f g : Bd → Bd} {L : List Bd} (hg : ∀ x ∈ L, g (f x) = x) : (L.map f).map g = L := by
  rw [List.map_map]
  conv => rhs; rw [← List.map_id L]
  exact List.map_congr_left fun x hx => hg x hx
/-- Seen backwards. -/
def backB (b : Bd) : Bd := ⟨b.t, b.f, b.m⟩
theorem row_rev {L : List Bd} : ∀ {l : List Bd} {a b : Nat}, Row L a b l → Row (L.map backB) b a (l.map backB).reverse := by
  intro l
  induction l with
  | nil => intro a b h; have := h.end_; simp only [endW] at this; subst this; exact Row.nil _ _
  | cons x l ih =>
    intro a b h
    obtain ⟨rfl, h2⟩ := h.chn
    have h3 := ih (a := x.t.toNat) (b := b) ⟨fun y hy => h.mem y (by simp [hy]), h2, h.end_⟩
    rw [List.map_cons, List.reverse_cons]
    have h4 := Row.one (L := L.map backB) (x := backB x) (List.mem_map.2 ⟨x, h.mem x (by simp), rfl⟩)
    exact h3.app h4
theorem sum_rev : ∀ l : List Bd, sumW l.reverse = sumW l := by
  intro l
  induction l with
  | nil => rfl
  | cons x l ih => rw [List.reverse_cons, sumW_app, ih]; simp only [sumW]; omega
theorem sum_back : ∀ l : List Bd, sumW (l.map backB) = sumW l := by
  intro l
  induction l with
  | nil => rfl
  | cons x l ih => simp only [List.map_cons, sumW, ih]; rfl
theorem back_back (b : Bd) : backB (backB b) = b := rfl
theorem asked_two {c : Cs} (h0 : checkC c = 0) (hf : Fine c.all) {a b : Nat} (ha : (a : Int) < c.ev) (hb : (b : Int) < c.ev) : askedC c [(a : Int), (b : Int)] = 0 := by
  unfold askedC
  rw [if_pos h0, if_pos (by simp only [List.all_cons, List.all_nil, Bool.and_true, Bool.and_eq_true, inB_iff]; omega)]
  unfold toldC
  rw [if_pos h0, clash_of h0 (by rw [belL_all]; exact hf)]
  rfl
theorem before_is {c : Cs} (h0 : checkC c = 0) (hf : Fine c.all) {a b : Nat} (ha : (a : Int) < c.ev) (hb : (b : Int) < c.ev) : beforeOf c a b = (verdictM (gapsM allT c) a b, 0) := by
  unfold beforeOf
  rw [if_pos (asked_two h0 hf ha hb)]; rfl
theorem gap_is {c : Cs} (h0 : checkC c = 0) (hf : Fine c.all) {a b : Nat} (ha : (a : Int) < c.ev) (hb : (b : Int) < c.ev) : gapOf c a b = if gapsM allT c a b = far then (0, 6) else (gapsM allT c a b, 0) := by
  unfold gapOf
  rw [if_pos (asked_two h0 hf ha hb)]; rfl
/-- The plain law of WarnShifted. -/
theorem shifted_plain {c : Cs} {real : List Int} (h : MadeOK 7 14 3 0 c real) {by_ : Int} (h0 : 0 ≤ by_) (h255 : by_ ≤ 255) {a b : Nat} (ha : (a : Int) < c.ev) (hb : (b : Int) < c.ev) :
    (beforeOf c a b).2 = 0 ∧ (beforeOf (c.map (laterB by_)) a b).2 = 0 ∧ (beforeOf (c.map backB) b a).2 = 0 ∧ (beforeOf (c.map backB) b a).1 = (beforeOf c a b).1 ∧
      (0 < a → 0 < b → (beforeOf (c.map (laterB by_)) a b).1 = (beforeOf c a b).1) ∧ gapOf (c.map backB) b a = gapOf c a b := by
  have hc := h.check (Int.le_refl _) (by omega) (by omega) (by omega) (by omega)
  have ht := h.truth
  have hall := h.all_ (Int.le_refl _)
  have e8 := h.evm
  have hcl : checkC (c.map (laterB by_)) = 0 := by
    refine map_check hc fun x hx => ?_
    obtain ⟨p1, p2, p3, p4, p5⟩ := hall x hx
    have r1 := getD_real h.real_ x.t.toNat
    have r2 := getD_real h.real_ x.f.toNat
    have q1 : 0 ≤ phi by_ x.t.toNat ∧ phi by_ x.t.toNat ≤ 255 := by unfold phi; split <;> omega
    have q2 : 0 ≤ phi by_ x.f.toNat ∧ phi by_ x.f.toNat ≤ 255 := by unfold phi; split <;> omega
    rw [laterB_m p3 p1.1 p2.1]
    exact ⟨p1, p2, p3, by simp only; omega, by simp only; omega⟩
  have hcb : checkC (c.map backB) = 0 := by
    refine map_check hc fun x hx => ?_
    obtain ⟨p1, p2, p3, p4, p5⟩ := hall x hx
    have r1 := getD_real h.real_ x.t.toNat
    have r2 := getD_real h.real_ x.f.toNat
    exact ⟨p2, p1, fun e => p3 e.symm, by simp only [backB]; omega, by simp only [backB]; omega⟩
  have hft : ∀ x ∈ c.all, x.f ≠ x.t ∧ 0 ≤ x.f ∧ 0 ≤ x.t := fun x hx => ⟨(hall x hx).2.2.1, (hall x hx).1.1, (hall x hx).2.1.1⟩
  have hfl : Fine (c.map (laterB by_)).all := by
    rw [map_all]
    refine (TruthOf.fine (t := fun k => real.getD k 0 + phi by_ k) fun x hx => ?_)
    obtain ⟨y, hy, rfl⟩ := List.mem_map.1 hx
    have h1 : real.getD y.t.toNat 0 ≤ real.getD y.f.toNat 0 + y.m := ht y hy
    obtain ⟨p1, p2, p3⟩ := hft y hy
    rw [laterB_m p1 p2 p3]
    show real.getD y.t.toNat 0 + phi by_ y.t.toNat ≤ real.getD y.f.toNat 0 + phi by_ y.f.toNat + (y.m + phi by_ y.t.toNat - phi by_ y.f.toNat)
    omega
  have hfb : Fine (c.map backB).all := by
    rw [map_all]
    refine (TruthOf.fine (t := fun k => - real.getD k 0) fun x hx => ?_)
    obtain ⟨y, hy, rfl⟩ := List.mem_map.1 hx
    have h1 : real.getD y.t.toNat 0 ≤ real.getD y.f.toNat 0 + y.m := ht y hy
    show - real.getD y.f.toNat 0 ≤ - real.getD y.t.toNat 0 + y.m
    omega
  have hf : Fine c.all := ht.fine
  have gl : ∀ a b : Nat, a < 8 → b < 8 → (gapsM allT c a b = far ∧ gapsM allT (c.map (laterB by_)) a b = far) ∨ (gapsM allT c a b ≠ far ∧ gapsM allT (c.map (laterB by_)) a b ≠ far ∧ gapsM allT (c.map (laterB by_)) a b = gapsM allT c a b + (phi by_ b - phi by_ a)) := fun a b ha hb => by
    refine gap_over hc hcl hf hfl ha hb ha hb _ (fun l hl => ⟨l.map (laterB by_), ?_, sum_phi c.all hft hl⟩) (fun m hm => ⟨m.map (earlyB by_), ?_, ?_⟩)
    · rw [map_all]; exact row_map (fun x _ => later_ft by_ x) hl
    · rw [map_all] at hm
      have := row_map (f := earlyB by_) (fun x _ => ⟨rfl, rfl⟩) hm
      rwa [map_back (fun x hx => early_later (hft x hx))] at this
    · rw [map_all] at hm
      have h1 := row_map (f := earlyB by_) (fun x _ => ⟨rfl, rfl⟩) hm
      rw [map_back (fun x hx => early_later (hft x hx))] at h1
      have h2 := sum_phi (by_ := by_) c.all hft h1
      rw [← h2, List.map_map]
      congr 1
      conv => lhs; rw [← List.map_id m]
      refine List.map_congr_left fun x hx => ?_
      obtain ⟨y, hy, rfl⟩ := List.mem_map.1 (hm.mem x hx)
      show _ = laterB by_ (earlyB by_ (laterB by_ y))
      rw [early_later (hft y hy)]; rfl
  have gb : ∀ a b : Nat, a < 8 → b < 8 → (gapsM allT c a b = far ∧ gapsM allT (c.map backB) b a = far) ∨ (gapsM allT c a b ≠ far ∧ gapsM allT (c.map backB) b a ≠ far ∧ gapsM allT (c.map backB) b a = gapsM allT c a b + 0) := fun a b ha hb => by
    refine gap_over hc hcb hf hfb ha hb hb ha 0 (fun l hl => ⟨(l.map backB).reverse, ?_, ?_⟩) (fun m hm => ⟨(m.map backB).reverse, ?_, ?_⟩)
    · rw [map_all]; exact row_rev hl
    · rw [sum_rev, sum_back]; omega
    · rw [map_all] at hm
      have := row_rev hm
      rwa [map_back (fun x _ => back_back x)] at this
    · rw [sum_rev, sum_back]; omega
  have a8 : a < 8 := by omega
  have b8 : b < 8 := by omega
  rw [before_is hc hf ha hb, before_is hcl hfl (c := c.map (laterB by_)) ha hb, before_is hcb hfb (c := c.map backB) hb ha, gap_is hc hf ha hb, gap_is hcb hfb (c := c.map backB) hb ha]
  refine ⟨rfl, rfl, rfl, ?_, fun pa pb => ?_, ?_⟩
  · have g1 := gb a b a8 b8
    have g2 := gb b a b8 a8
    simp only [verdictM]
    generalize gapsM allT c a b = x1 at *
    generalize gapsM allT c b a = x2 at *
    generalize gapsM allT (c.map backB) a b = x3 at *
    generalize gapsM allT (c.map backB) b a = x4 at *
    have e1 : x4 = x1 := by omega
    have e2 : x3 = x2 := by omega
    rw [e1, e2]
  · have g1 := gl a b a8 b8
    have g2 := gl b a b8 a8
    have p1 : phi by_ a = by_ := by unfold phi; rw [if_neg (by omega)]
    have p2 : phi by_ b = by_ := by unfold phi; rw [if_neg (by omega)]
    rw [p1, p2] at g1 g2
    simp only [verdictM]
    generalize gapsM allT c a b = x1 at *
    generalize gapsM allT c b a = x2 at *
    generalize gapsM allT (c.map (laterB by_)) a b = x3 at *
    generalize gapsM allT (c.map (laterB by_)) b a = x4 at *
    have e1 : x3 = x1 := by omega
    have e2 : x4 = x2 := by omega
    rw [e1, e2]
  · have g1 := gb a b a8 b8
    generalize gapsM allT c a b = x1 at *
    generalize gapsM allT (c.map backB) b a = x4 at *
    have e1 : x4 = x1 := by omega
    rw [e1]
end Go.Proofs.Ytgnjhaomlbkgcaa
