/- The plain side of BoilRow: the first pair that clashes, looked for from the last one. No program stands here. The plain side of BoilMeat: what can have come out of shells, between the bounds of a month. No program stands here. Truths: ratios that rise to the peak and fall behind it; a house agrees just if a truth has all its weighings true. No program stands here. All smallest sets in order, as smallest tells them; the weighings in none of them. No program stands here. The plain side of BoilBounds: a weighing more. No program stands here. The plain side of BoilGrown: a weighing less, and one with wider spans. No program stands here. What boil's law makes of numbers: a house with the truth that there really was. No program stands here. What the law's Made makes, step by step: the ratios, and the weighings. No program stands here. The plain side of BoilMeat. No program stands here. -/
import Derived.Test.YtjnobdcbbboeeaaGreatH1
namespace Go.Proofs.YtjnobdcbbboeeaaGreat
open Go Go.RowKit
set_option linter.unusedVariables false
set_option linter.unusedSimpArgs false

theorem flatMap_same {α β : Type} {f g : α → List β} : ∀ (l : List α), (∀ x ∈ l, f x = g x) → l.flatMap f = l.flatMap g
  | [], _ => rfl
  | x :: l, h => by
    rw [List.flatMap_cons, List.flatMap_cons, h x List.mem_cons_self, flatMap_same l fun y hy => h y (List.mem_cons_of_mem _ hy)]
section
variable (h : Hs)
def rowF (a b : Nat) : List (Int × Int) := ((List.range' b (h.ws.length - b)).filter (claL h a)).map fun (y : Nat) => ((a : Int), (y : Int))
def restF (a : Nat) : List (Int × Int) := (List.range' a (h.ws.length - a)).flatMap fun x => rowF h x 0
def curF (a b : Nat) : List (Int × Int) := rowF h a b ++ restF h (a + 1)
/-- As the law keeps it: A is -1 where none is. -/
def fstF (l : List (Int × Int)) : Int × Int := match l with | [] => (-1, 0) | p :: _ => p
theorem row_end (a : Nat) : rowF h a h.ws.length = [] := by unfold rowF; rw [Nat.sub_self]; rfl
theorem row_next {a b : Nat} (hb : b < h.ws.length) : rowF h a b = (if claL h a b = true then [((a : Int), (b : Int))] else []) ++ rowF h a (b + 1) := by
  unfold rowF
  obtain ⟨k, hk⟩ : ∃ k, h.ws.length - b = k + 1 := ⟨h.ws.length - b - 1, by omega⟩
  rw [hk, show h.ws.length - (b + 1) = k by omega, List.range'_succ, List.filter_cons]
  by_cases e : claL h a b = true
  · rw [if_pos e, if_pos e]; rfl
  · rw [if_neg e, if_neg e]; rfl
theorem rest_end : restF h h.ws.length = [] := by unfold restF; rw [Nat.sub_self]; rfl
theorem cur_end (a : Nat) : curF h a h.ws.length = restF h (a + 1) := by unfold curF; rw [row_end]; rfl
theorem cur_start {a : Nat} (ha : a < h.ws.length) : curF h a 0 = restF h a := by
  unfold curF restF
  obtain ⟨k, hk⟩ : ∃ k, h.ws.length - a = k + 1 := ⟨h.ws.length - a - 1, by omega⟩
  rw [hk, show h.ws.length - (a + 1) = k by omega, List.range'_succ, List.flatMap_cons]
theorem cur_next {a b : Nat} (hb : b < h.ws.length) : fstF (curF h a b) = if claL h a b = true then ((a : Int), (b : Int)) else fstF (curF h a (b + 1)) := by
  unfold curF
  rw [row_next h hb]
  by_cases e : claL h a b = true
  · rw [if_pos e, if_pos e]; rfl
  · rw [if_neg e, if_neg e]; rfl
theorem rest_all (k : HsOK h) : restF h 0 = claP h := by
  unfold restF claP
  rw [Nat.sub_zero, ← List.range_eq_range']
  refine flatMap_same _ fun a ha => ?_
  have ha := List.mem_range.1 ha
  unfold rowF belH
  rw [Nat.sub_zero, ← List.range_eq_range']
  congr 1
  apply List.filter_congr
  intro b hb
  exact claL_is k ha (List.mem_range.1 hb)
/-- What Clash says is the first pair. -/
theorem row_first (k : HsOK h) : (claE h = 6 ∧ claP h = [] ∧ fstF (claP h) = (-1, 0)) ∨ (claE h = 0 ∧ claV h = fstF (claP h) ∧ 0 ≤ (fstF (claP h)).1) := by
  have hc := checkH_of k
  unfold claE claV
  rw [if_neg (fun x => x hc), if_neg (fun x => x hc)]
  cases e : claP h with
  | nil => exact .inl ⟨rfl, rfl, rfl⟩
  | cons p l =>
    refine .inr ⟨rfl, rfl, ?_⟩
    have hp : p ∈ claP h := by rw [e]; exact List.mem_cons_self
    unfold claP at hp
    obtain ⟨a, -, hp⟩ := List.mem_flatMap.1 hp
    obtain ⟨b, -, hp⟩ := List.mem_map.1 hp
    subst hp
    show 0 ≤ ((a : Nat) : Int)
    omega
end
end Go.Proofs.YtjnobdcbbboeeaaGreat

namespace Go.Proofs.YtjnobdcbbboeeaaGreat
open Go Go.RowKit
set_option linter.unusedVariables false
set_option linter.unusedSimpArgs false

theorem floor_iff {r : Rt} {s k : Int} (hr : Rpos r) (hs : 0 ≤ s) : k * r.2 ≤ r.1 * s ↔ k ≤ floorR r s := by
  have hn : 0 ≤ r.1 * s := Int.mul_nonneg (Int.le_of_lt hr.1) hs
  unfold floorR
  rw [Int.tdiv_eq_ediv_of_nonneg hn]
  exact (Int.le_ediv_iff_mul_le hr.2).symm
theorem ceil_iff {r : Rt} {s k : Int} (hr : Rpos r) (hs : 0 ≤ s) : r.1 * s ≤ k * r.2 ↔ ceilR r s ≤ k := by
  have hn : 0 ≤ r.1 * s := Int.mul_nonneg (Int.le_of_lt hr.1) hs
  have hd := hr.2
  unfold ceilR
  rw [Int.tdiv_eq_ediv_of_nonneg (by omega)]
  have h1 : (r.1 * s + r.2 - 1) / r.2 < k + 1 ↔ r.1 * s + r.2 - 1 < (k + 1) * r.2 := Int.ediv_lt_iff_lt_mul hr.2
  have h2 : (k + 1) * r.2 = k * r.2 + r.2 := by rw [Int.add_mul, Int.one_mul]
  rw [h2] at h1
  omega
theorem ceil_nonneg {r : Rt} {s : Int} (hr : Rpos r) (hs : 0 ≤ s) : 0 ≤ ceilR r s := by
  have hn : 0 ≤ r.1 * s := Int.mul_nonneg (Int.le_of_lt hr.1) hs
  refine Int.not_lt.1 fun h => ?_
  have h1 := (ceil_iff (k := -1) hr hs).2 (by omega)
  have := hr.2
  omega
theorem ceil_mono {r : Rt} {s : Int} (hr : Rpos r) (hs : 0 ≤ s) : ceilR r s ≤ ceilR r (s + 1) := by
  rw [← ceil_iff hr hs]
  have h1 := (ceil_iff (k := ceilR r (s + 1)) hr (show 0 ≤ s + 1 by omega)).2 (Int.le_refl _)
  have h2 : r.1 * (s + 1) = r.1 * s + r.1 := by rw [Int.mul_add, Int.mul_one]
  have := hr.1
  omega
theorem floor_mono {r : Rt} {s : Int} (hr : Rpos r) (hs : 0 ≤ s) : floorR r s ≤ floorR r (s + 1) := by
  rw [← floor_iff hr (by omega)]
  have h1 := (floor_iff (k := floorR r s) hr hs).2 (Int.le_refl _)
  have h2 : r.1 * (s + 1) = r.1 * s + r.1 := by rw [Int.mul_add, Int.mul_one]
  have := hr.1
  omega
theorem ceil_zero {r : Rt} (hr : Rpos r) : ceilR r 0 = 0 := by
  have h1 := (ceil_iff (k := 0) hr (Int.le_refl _)).1 (by simp)
  have h2 := ceil_nonneg hr (Int.le_refl 0)
  omega
theorem floor_zero {r : Rt} (hr : Rpos r) : floorR r 0 = 0 := by
  unfold floorR
  rw [Int.mul_zero]; exact Int.zero_tdiv _
/-- A number of measures fits between the bounds. -/
def fitsB (lo hi : Rt) (k n : Int) : Bool := decide (lo.1 * n ≤ k * lo.2) && decide (k * hi.2 ≤ hi.1 * n)
theorem fitsB_iff {lo hi : Rt} {k n : Int} (hl : Rpos lo) (hh : Rpos hi) (hn : 0 ≤ n) : fitsB lo hi k n = true ↔ ceilR lo n ≤ k ∧ k ≤ floorR hi n := by
  unfold fitsB
  rw [Bool.and_eq_true, decide_eq_true_eq, decide_eq_true_eq, ceil_iff hl hn, floor_iff hh hn]
theorem min_pos : ∀ (l : List Rt) (r : Rt), Rpos r → (∀ q ∈ l, Rpos q) → Rpos (minR r l) ∧ leR (minR r l) r ∧ (∀ q ∈ l, leR (minR r l) q) ∧ (minR r l = r ∨ minR r l ∈ l)
  | [], r, hr, _ => ⟨hr, leR_refl r, fun q h => (by cases h), .inl rfl⟩
  | q :: l, r, hr, hl => by
    have hq := hl q List.mem_cons_self
    have hl' : ∀ x ∈ l, Rpos x := fun x hx => hl x (List.mem_cons_of_mem _ hx)
    unfold minR
    by_cases h : abv r q = true
    · rw [if_pos h]
      obtain ⟨i1, i2, i3, i4⟩ := min_pos l q hq hl'
      have hqr : leR q r := (leR_total q r).elim id fun x => absurd x (abv_iff.1 h)
      refine ⟨i1, leR_trans i1 hq hr i2 hqr, fun x hx => ?_, ?_⟩
      · rcases List.mem_cons.1 hx with rfl | hx
        · exact i2
        · exact i3 x hx
      · rcases i4 with i4 | i4
        · exact .inr (by rw [i4]; exact List.mem_cons_self)
        · exact .inr (List.mem_cons_of_mem _ i4)
    · rw [if_neg h]
      obtain ⟨i1, i2, i3, i4⟩ := min_pos l r hr hl'
      have hrq : leR r q := abv_not.1 (by simpa using h)
      refine ⟨i1, i2, fun x hx => ?_, ?_⟩
      · rcases List.mem_cons.1 hx with rfl | hx
        · exact leR_trans i1 hr hq i2 hrq
        · exact i3 x hx
      · rcases i4 with i4 | i4
        · exact .inl i4
        · exact .inr (List.mem_cons_of_mem _ i4)
section
variable {h : Hs} {m : Int}
theorem low_mem {r : Rt} : r ∈ lowsH h m ↔ ∃ w ∈ h.ws, undH h w.mo m = true ∧ w.lo = r := by
  unfold lowsH
  rw [List.mem_map]
  constructor
  · rintro ⟨w, hw, e⟩
    obtain ⟨h1, h2⟩ := List.mem_filter.1 hw
    exact ⟨w, h1, h2, e⟩
  · rintro ⟨w, h1, h2, e⟩
    exact ⟨w, List.mem_filter.2 ⟨h1, h2⟩, e⟩
theorem up_mem {r : Rt} : r ∈ upsH h m ↔ ∃ w ∈ h.ws, undH h m w.mo = true ∧ w.hi = r := by
  unfold upsH
  rw [List.mem_map]
  constructor
  · rintro ⟨w, hw, e⟩
    obtain ⟨h1, h2⟩ := List.mem_filter.1 hw
    exact ⟨w, h1, h2, e⟩
  · rintro ⟨w, h1, h2, e⟩
    exact ⟨w, List.mem_filter.2 ⟨h1, h2⟩, e⟩
/-- The bounds of a month, where there are any. -/
structure BndOK (h : Hs) (m : Int) (lo hi : Rt) : Prop where
  pl : Rpos lo
  ph : Rpos hi
  isl : lo ∈ lowsH h m
  ish : hi ∈ upsH h m
  gel : ∀ r ∈ lowsH h m, leR r lo
  leh : ∀ r ∈ upsH h m, leR hi r
theorem bnd_ok (k : HsOK h) (e : bndE h m = 0) : BndOK h m (bndL h m) (bndU h m) := by
  have hc := checkH_of k
  have e2 := e
  unfold bndE at e2
  rw [if_neg (fun x => x hc)] at e2
  split at e2
  · cases e2
  · split at e2
    · cases e2
    · split at e2
      · cases e2
      · rename_i hne
        have pl : ∀ r ∈ lowsH h m, Rpos r := fun r hr => by
          obtain ⟨w, hw, -, rfl⟩ := low_mem.1 hr
          exact (k.pos hw).1
        have pu : ∀ r ∈ upsH h m, Rpos r := fun r hr => by
          obtain ⟨w, hw, -, rfl⟩ := up_mem.1 hr
          exact (k.pos hw).2
        unfold bndL bndU
        rw [if_pos e, if_pos e]
        cases el : lowsH h m with
        | nil => rw [el] at hne; simp at hne
        | cons a l =>
          cases eu : upsH h m with
          | nil => rw [eu] at hne; simp at hne
          | cons b u =>
            rw [el] at pl
            rw [eu] at pu
            obtain ⟨g1, g2, g3, g4⟩ := great_ge l a (pl a List.mem_cons_self) (fun q hq => pl q (List.mem_cons_of_mem _ hq))
            obtain ⟨u1, u2, u3, u4⟩ := min_pos u b (pu b List.mem_cons_self) (fun q hq => pu q (List.mem_cons_of_mem _ hq))
            refine ⟨g4, u1, ?_, ?_, fun r hr => ?_, fun r hr => ?_⟩
            · rw [el]
              show greatL a l ∈ a :: l
              rcases g3 with e | e
              · rw [e]; exact List.mem_cons_self
              · exact List.mem_cons_of_mem _ e
            · rw [eu]
              show minR b u ∈ b :: u
              rcases u4 with e | e
              · rw [e]; exact List.mem_cons_self
              · exact List.mem_cons_of_mem _ e
            · rw [el] at hr
              rcases List.mem_cons.1 hr with rfl | hr
              · exact g1
              · exact g2 r hr
            · rw [eu] at hr
              rcases List.mem_cons.1 hr with rfl | hr
              · exact u2
              · exact u3 r hr
theorem BndOK.le1000 (k : HsOK h) {lo hi : Rt} (b : BndOK h m lo hi) : lo.1 ≤ 1000 ∧ lo.2 ≤ 1000 ∧ hi.1 ≤ 1000 ∧ hi.2 ≤ 1000 := by
  obtain ⟨w, hw, -, rfl⟩ := low_mem.1 b.isl
  obtain ⟨v, hv, -, rfl⟩ := up_mem.1 b.ish
  have m1 := k.ms w hw
  have m2 := k.ms v hv
  have l1 := lowR_le (n := w.ml) (d := w.sh) (by omega) (by omega)
  have l2 := lowR_le (n := v.mh) (d := v.sl) (by omega) (by omega)
  unfold Wg.lo Wg.hi
  omega
end
end Go.Proofs.YtjnobdcbbboeeaaGreat

namespace Go.Proofs.YtjnobdcbbboeeaaGreat
open Go Go.RowKit
set_option linter.unusedVariables false
set_option linter.unusedSimpArgs false

def rtAt (l : List Rt) (m : Int) : Rt := l.getD m.toNat (0, 0)
/-- Step m of a truth is right. -/
def stepT (h : Hs) (l : List Rt) (m : Nat) : Bool := !((decide ((m : Int) ≤ h.pk) && abv (l.getD (m - 1) (0, 0)) (l.getD m (0, 0))) || (decide (h.pk < (m : Int)) && abv (l.getD m (0, 0)) (l.getD (m - 1) (0, 0))))
def truthH (h : Hs) (l : List Rt) : Bool := (List.range' 1 (l.length - 1)).all (stepT h l)
def holdW (w : Wg) (r : Rt) : Bool := !(abv w.lo r || abv r w.hi)
theorem hold_iff {w : Wg} {r : Rt} : holdW w r = true ↔ leR w.lo r ∧ leR r w.hi := by
  unfold holdW
  rw [Bool.not_eq_true', Bool.or_eq_false_iff, abv_not, abv_not]
theorem truth_iff {h : Hs} {l : List Rt} : truthH h l = true ↔ ∀ m, 1 ≤ m → m < l.length → ((m : Int) ≤ h.pk → leR (l.getD (m - 1) (0, 0)) (l.getD m (0, 0))) ∧ (h.pk < (m : Int) → leR (l.getD m (0, 0)) (l.getD (m - 1) (0, 0))) := by
  unfold truthH
  rw [List.all_eq_true]
  have key : ∀ m : Nat, stepT h l m = true ↔ (((m : Int) ≤ h.pk → leR (l.getD (m - 1) (0, 0)) (l.getD m (0, 0))) ∧ (h.pk < (m : Int) → leR (l.getD m (0, 0)) (l.getD (m - 1) (0, 0)))) := fun m => by
    unfold stepT
    rw [Bool.not_eq_true', Bool.or_eq_false_iff, Bool.and_eq_false_iff, Bool.and_eq_false_iff, abv_not, abv_not, decide_eq_false_iff_not, decide_eq_false_iff_not]
    by_cases e : (m : Int) ≤ h.pk
    · have e2 : ¬ h.pk < (m : Int) := by omega
      simp only [e, e2, not_true, false_or, not_false_eq_true, true_or, and_true, true_implies, false_implies]
    · have e2 : h.pk < (m : Int) := by omega
      simp only [e, e2, not_true, false_or, not_false_eq_true, true_or, true_and, true_implies, false_implies]
  constructor
  · intro h1 m m1 m2
    exact (key m).1 (h1 m (List.mem_range'.2 ⟨m - 1, by omega, by omega⟩))
  · intro h1 m hm
    obtain ⟨i, hi, e⟩ := List.mem_range'.1 hm
    exact (key m).2 (h1 m (by omega) (by omega))
/-- Ratios that are allowed. -/
structure RtsOK (h : Hs) (l : List Rt) : Prop where
  len : (l.length : Int) = h.mo
  pos : ∀ r ∈ l, Rpos r
theorem getD_mem {α : Type} {l : List α} {i : Nat} {d : α} (hi : i < l.length) : l.getD i d ∈ l := by
  rw [List.getD_eq_getElem?_getD, List.getElem?_eq_getElem hi]
  exact List.getElem_mem hi
section
variable {h : Hs} {l : List Rt}
theorem truth_up (hr : RtsOK h l) (ht : truthH h l = true) : ∀ (k a : Nat), ((a + k : Nat) : Int) ≤ h.pk → a + k < l.length → leR (l.getD a (0, 0)) (l.getD (a + k) (0, 0))
  | 0, a, _, _ => leR_refl _
  | k + 1, a, h1, h2 => by
    have ih := truth_up hr ht k a (by omega) (by omega)
    have hs := (truth_iff.1 ht (a + k + 1) (by omega) (by omega)).1 (by omega)
    rw [Nat.add_sub_cancel] at hs
    exact leR_trans (hr.pos _ (getD_mem (by omega))) (hr.pos _ (getD_mem (by omega))) (hr.pos _ (getD_mem (by omega))) ih hs
theorem truth_down (hr : RtsOK h l) (ht : truthH h l = true) : ∀ (k a : Nat), h.pk ≤ (a : Int) → a + k < l.length → leR (l.getD (a + k) (0, 0)) (l.getD a (0, 0))
  | 0, a, _, _ => leR_refl _
  | k + 1, a, h1, h2 => by
    have ih := truth_down hr ht k a h1 (by omega)
    have hs := (truth_iff.1 ht (a + k + 1) (by omega) (by omega)).2 (by omega)
    rw [Nat.add_sub_cancel] at hs
    exact leR_trans (hr.pos _ (getD_mem (by omega))) (hr.pos _ (getD_mem (by omega))) (hr.pos _ (getD_mem (by omega))) hs ih
/-- In a truth a month that lies under another one has no greater ratio. -/
theorem truth_und (hr : RtsOK h l) (ht : truthH h l = true) {a b : Int} (ha : 0 ≤ a ∧ a < h.mo) (hb : 0 ≤ b ∧ b < h.mo) (hu : undH h a b = true) : leR (rtAt l a) (rtAt l b) := by
  have hl := hr.len
  unfold rtAt
  rcases und_iff.1 hu with ⟨h1, h2⟩ | ⟨h1, h2⟩
  · have := truth_up hr ht (b.toNat - a.toNat) a.toNat (by omega) (by omega)
    rwa [show a.toNat + (b.toNat - a.toNat) = b.toNat by omega] at this
  · have := truth_down hr ht (a.toNat - b.toNat) b.toNat (by omega) (by omega)
    rwa [show b.toNat + (a.toNat - b.toNat) = a.toNat by omega] at this
theorem rtAt_pos (hr : RtsOK h l) {a : Int} (ha : 0 ≤ a ∧ a < h.mo) : Rpos (rtAt l a) := by
  have hl := hr.len
  exact hr.pos _ (getD_mem (by omega))
theorem agr_iff : agrH h = true ↔ ∀ a b, a < h.ws.length → b < h.ws.length → claH h a b = false := by
  unfold agrH
  rw [List.all_eq_true]
  constructor
  · intro h1 a b ha hb
    have h2 := h1 a (List.mem_range.2 ha)
    rw [List.all_eq_true] at h2
    have h3 := h2 b (List.mem_range.2 hb)
    simpa using h3
  · intro h1 a ha
    rw [List.all_eq_true]
    intro b hb
    rw [h1 a b (List.mem_range.1 ha) (List.mem_range.1 hb)]; rfl
/-- Weighings that are all true in a truth agree. -/
theorem agr_of (k : HsOK h) (hr : RtsOK h l) (ht : truthH h l = true) (hw : ∀ w ∈ h.ws, holdW w (rtAt l w.mo) = true) : agrH h = true := by
  rw [agr_iff]
  intro a b ha hb
  rw [← Bool.not_eq_true, claH_iff]
  rintro ⟨h1, h2⟩
  have ma := wgAt_mem ha
  have mb := wgAt_mem hb
  have wa := hold_iff.1 (hw _ ma)
  have wb := hold_iff.1 (hw _ mb)
  have hu := truth_und hr ht (k.wm _ ma) (k.wm _ mb) h1
  have pa := rtAt_pos hr (k.wm _ ma)
  have pb := rtAt_pos hr (k.wm _ mb)
  exact h2 (leR_trans (k.pos ma).1 pb (k.pos mb).2 (leR_trans (k.pos ma).1 pa pb wa.1 hu) wb.2)
/-- The least ratio that there is. -/
def oneR : Rt := (1, 1000)
def shownH (h : Hs) : List Rt := (List.range h.mo.toNat).map fun (m : Nat) => greatL oneR (lowsH h (m : Int))
def shoE (h : Hs) : Int := if checkH h ≠ 0 then checkH h else if agrH h = false then 7 else 0
def shoV (h : Hs) : List Rt := if shoE h = 0 then shownH h else []
theorem one_pos : Rpos oneR := ⟨by decide, by decide⟩
theorem one_le (k : HsOK h) {w : Wg} (hw : w ∈ h.ws) : leR oneR w.lo ∧ leR oneR w.hi := by
  have m := k.ms w hw
  obtain ⟨l1, l2⟩ := k.low hw
  have k1 := low_self oneR (by decide) (by decide)
  constructor
  · rw [← abv_not, abv_low k1 l1, decide_eq_false_iff_not]
    show ¬ w.ml * 1000 < 1 * w.sh
    omega
  · rw [← abv_not, abv_low k1 l2, decide_eq_false_iff_not]
    show ¬ w.mh * 1000 < 1 * w.sl
    omega
theorem shown_at {m : Int} (hm : 0 ≤ m ∧ m < h.mo) : rtAt (shownH h) m = greatL oneR (lowsH h m) := by
  unfold rtAt shownH
  rw [List.getD_eq_getElem?_getD, List.getElem?_map, List.getElem?_range (by omega)]
  show greatL oneR (lowsH h ((m.toNat : Nat) : Int)) = _
  rw [Int.toNat_of_nonneg hm.1]
theorem shown_len : (shownH h).length = h.mo.toNat := by unfold shownH; rw [List.length_map, List.length_range]
theorem low_pos (k : HsOK h) (m : Int) : ∀ r ∈ lowsH h m, Rpos r := fun r hr => by
  obtain ⟨w, hw, -, rfl⟩ := low_mem.1 hr
  exact (k.pos hw).1
theorem shown_mono (k : HsOK h) {a b : Int} (hu : undH h a b = true) : leR (greatL oneR (lowsH h a)) (greatL oneR (lowsH h b)) := by
  obtain ⟨a1, a2, a3, a4⟩ := great_ge (lowsH h a) oneR one_pos (low_pos k a)
  obtain ⟨b1, b2, b3, b4⟩ := great_ge (lowsH h b) oneR one_pos (low_pos k b)
  rcases a3 with e | e
  · rw [e]; exact b1
  · obtain ⟨w, hw, h1, h2⟩ := low_mem.1 e
    have hb : w.lo ∈ lowsH h b := low_mem.2 ⟨w, hw, und_trans h1 hu, rfl⟩
    rw [← h2]; exact b2 _ hb
/-- What is shown is a truth, in which all weighings are true. -/
theorem shown_ok (k : HsOK h) (ha : agrH h = true) : RtsOK h (shownH h) ∧ truthH h (shownH h) = true ∧ ∀ w ∈ h.ws, holdW w (rtAt (shownH h) w.mo) = true := by
  have hmo := k.mo
  have hat : ∀ i, i < h.mo.toNat → (shownH h).getD i (0, 0) = greatL oneR (lowsH h (i : Int)) := fun i hi => by
    have := shown_at (h := h) (m := (i : Int)) ⟨by omega, by omega⟩
    unfold rtAt at this
    rwa [Int.toNat_natCast] at this
  refine ⟨⟨by rw [shown_len]; omega, fun r hr => ?_⟩, truth_iff.2 fun m m1 m2 => ?_, fun w hw => ?_⟩
  · unfold shownH at hr
    obtain ⟨m, -, rfl⟩ := List.mem_map.1 hr
    exact (great_ge _ oneR one_pos (low_pos k _)).2.2.2
  · rw [shown_len] at m2
    rw [hat m m2, hat (m - 1) (by omega)]
    exact ⟨fun e => shown_mono k (und_iff.2 (.inl ⟨by omega, e⟩)), fun e => shown_mono k (und_iff.2 (.inr ⟨by omega, by omega⟩))⟩
  · rw [shown_at (k.wm w hw), hold_iff]
    obtain ⟨g1, g2, g3, g4⟩ := great_ge (lowsH h w.mo) oneR one_pos (low_pos k w.mo)
    refine ⟨g2 _ (low_mem.2 ⟨w, hw, und_refl h _, rfl⟩), ?_⟩
    rcases g3 with e | e
    · rw [e]; exact (one_le k hw).2
    · obtain ⟨v, hv, h1, h2⟩ := low_mem.1 e
      rw [← h2]
      obtain ⟨i, hi, ei⟩ := List.mem_iff_getElem.1 hv
      obtain ⟨j, hj, ej⟩ := List.mem_iff_getElem.1 hw
      have hc := agr_iff.1 ha i j hi hj
      rw [← Bool.not_eq_true, claH_iff] at hc
      have e1 : wgAt h i = v := by unfold wgAt; rw [List.getD_eq_getElem?_getD, List.getElem?_eq_getElem hi, ei]; rfl
      have e2 : wgAt h j = w := by unfold wgAt; rw [List.getD_eq_getElem?_getD, List.getElem?_eq_getElem hj, ej]; rfl
      rw [e1, e2] at hc
      exact Classical.not_not.1 fun x => hc ⟨h1, x⟩
/-- A truth in which all is true lies between the bounds. -/
theorem truth_bnd (k : HsOK h) (hr : RtsOK h l) (ht : truthH h l = true) (hw : ∀ w ∈ h.ws, holdW w (rtAt l w.mo) = true) {m : Int} (hm : 0 ≤ m ∧ m < h.mo) {lo hi : Rt} (b : BndOK h m lo hi) : leR lo (rtAt l m) ∧ leR (rtAt l m) hi := by
  obtain ⟨w, h1, h2, h3⟩ := low_mem.1 b.isl
  obtain ⟨v, v1, v2, v3⟩ := up_mem.1 b.ish
  have pm := rtAt_pos hr hm
  constructor
  · rw [← h3]
    exact leR_trans (k.pos h1).1 (rtAt_pos hr (k.wm w h1)) pm (hold_iff.1 (hw w h1)).1 (truth_und hr ht (k.wm w h1) hm h2)
  · rw [← v3]
    exact leR_trans pm (rtAt_pos hr (k.wm v v1)) (k.pos v1).2 (truth_und hr ht hm (k.wm v v1) v2) (hold_iff.1 (hw v v1)).2
end
/-! ### Nothing clashes -/
theorem agr_bel {h : Hs} (ha : agrH h = true) : ∀ a, a < h.ws.length → belH h a = [] := fun a hl => by
  unfold belH
  rw [List.filter_eq_nil_iff]
  intro b hb
  rw [agr_iff.1 ha a b hl (List.mem_range.1 hb)]; decide
theorem agr_few {h : Hs} (k : HsOK h) (ha : agrH h = true) : fewH h = [] := by
  obtain ⟨-, -, f1, f2, f3, f4⟩ := few_is k
  have hc : covH h [] = true := cov_iff.2 fun a b hl hb => by rw [agr_bel ha a hl] at hb; cases hb
  cases e : fewH h with
  | nil => rfl
  | cons x l =>
    have := f4 [] trivial (fewer_iff.2 (.inl (by rw [e]; simp)))
    rw [hc] at this; cases this
theorem agr_cla {h : Hs} (ha : agrH h = true) : claP h = [] := by
  unfold claP
  rw [List.flatMap_eq_nil_iff]
  intro a hl
  rw [agr_bel ha a (List.mem_range.1 hl)]; rfl
end Go.Proofs.YtjnobdcbbboeeaaGreat

namespace Go.Proofs.YtjnobdcbbboeeaaGreat
open Go Go.RowKit
set_option linter.unusedVariables false
set_option linter.unusedSimpArgs false

/-- All sets that go on with so many, from k on. -/
def tellL (p : List Int → Bool) (wi : Nat) : Nat → List Int → Nat → List (List Int)
  | 0, l, _ => if p l then [l] else []
  | m + 1, l, k => (List.range' k (wi - m - k)).flatMap fun (n : Nat) => tellL p wi m (l ++ [(n : Int)]) (n + 1)
theorem tell_mem (p : List Int → Bool) (wi : Nat) : ∀ (m : Nat) (l : List Int) (k : Nat) (x : List Int), x ∈ tellL p wi m l k ↔ ∃ e, x = l ++ e ∧ e.length = m ∧ Asc k wi e ∧ p x = true
  | 0, l, k, x => by
    unfold tellL
    by_cases hp : p l = true
    · rw [if_pos hp]
      constructor
      · intro h
        rw [List.mem_singleton] at h
        subst h
        exact ⟨[], by simp, rfl, trivial, hp⟩
      · rintro ⟨e, h1, h2, -, -⟩
        obtain rfl := List.eq_nil_of_length_eq_zero h2
        rw [h1]; simp
    · rw [if_neg hp]
      constructor
      · intro h; cases h
      · rintro ⟨e, h1, h2, -, h4⟩
        obtain rfl := List.eq_nil_of_length_eq_zero h2
        rw [List.append_nil] at h1
        rw [h1] at h4
        exact absurd h4 hp
  | m + 1, l, k, x => by
    unfold tellL
    rw [List.mem_flatMap]
    constructor
    · rintro ⟨n, hn, hx⟩
      obtain ⟨i, hi, rfl⟩ := List.mem_range'.1 hn
      obtain ⟨e, h1, h2, h3, h4⟩ := (tell_mem p wi m _ _ x).1 hx
      refine ⟨((k + 1 * i : Nat) : Int) :: e, by rw [h1]; simp, by simp [h2], ⟨by omega, by omega, ?_⟩, h4⟩
      rw [Int.toNat_natCast]; exact h3
    · rintro ⟨e, h1, h2, h3, h4⟩
      cases e with
      | nil => simp at h2
      | cons y e =>
        obtain ⟨a1, a2, a3⟩ := h3
        have hlen : e.length = m := by simpa using h2
        have hroom := a3.len
        refine ⟨y.toNat, List.mem_range'.2 ⟨y.toNat - k, ?_, by omega⟩, (tell_mem p wi m _ _ x).2 ⟨e, ?_, hlen, a3, h4⟩⟩
        · rcases hroom with hr | hr
          · omega
          · rw [hr] at hlen; simp at hlen; omega
        · rw [h1, Int.toNat_of_nonneg (by omega)]; simp
theorem more_room (p : List Int → Bool) (wi : Nat) {m : Nat} {l : List Int} {k : Nat} (hm : 0 < m) (h : wi < k + m) : moreL p wi m l k = none := by
  cases e : moreL p wi m l k with
  | none => rfl
  | some r =>
    obtain ⟨x, -, h2, h3, -⟩ := (moreL_spec p wi m l k).1 r e
    rcases h3.len with h4 | h4
    · omega
    · rw [h4] at h2; simp at h2; omega
theorem tryL_more {f : Nat → Option (List Int)} : ∀ (c d k : Nat), (∀ n, k + c ≤ n → n < k + c + d → f n = none) → tryL f k (c + d) = tryL f k c
  | 0, 0, k, _ => rfl
  | 0, d + 1, k, h => by
    have e : 0 + (d + 1) = d + 1 := by omega
    rw [e]
    have h0 := h k (by omega) (by omega)
    have ih := tryL_more (f := f) 0 d (k + 1) (fun n h1 h2 => h n (by omega) (by omega))
    unfold tryL
    rw [h0]
    rw [Nat.zero_add] at ih
    rw [ih]; rfl
  | c + 1, d, k, h => by
    have e : c + 1 + d = (c + d) + 1 := by omega
    rw [e]
    have ih := tryL_more (f := f) c d (k + 1) (fun n h1 h2 => h n (by omega) (by omega))
    unfold tryL
    rw [ih]
theorem tryL_head {f : Nat → Option (List Int)} {g : Nat → List (List Int)} : ∀ (c k : Nat), (∀ n, k ≤ n → n < k + c → f n = (g n).head?) → tryL f k c = ((List.range' k c).flatMap g).head?
  | 0, k, _ => rfl
  | c + 1, k, h => by
    have h0 := h k (Nat.le_refl _) (by omega)
    have ih := tryL_head (f := f) (g := g) c (k + 1) (fun n h1 h2 => h n (by omega) (by omega))
    unfold tryL
    rw [List.range'_succ, List.flatMap_cons, h0]
    cases e : g k with
    | nil => simpa using ih
    | cons x r => rfl
/-- The first of them. -/
theorem tell_head (p : List Int → Bool) (wi : Nat) : ∀ (m : Nat) (l : List Int) (k : Nat), moreL p wi m l k = (tellL p wi m l k).head?
  | 0, l, k => by
    unfold moreL tellL
    by_cases hp : p l = true
    · rw [if_pos hp, if_pos hp]; rfl
    · rw [if_neg hp, if_neg hp]; rfl
  | m + 1, l, k => by
    unfold moreL tellL
    have e : wi - k = (wi - m - k) + (wi - k - (wi - m - k)) := by omega
    rw [e, tryL_more]
    · exact tryL_head _ _ fun n h1 h2 => tell_head p wi m _ _
    · intro n h1 h2
      exact more_room p wi (by omega) (by omega)
def smallL (h : Hs) : List (List Int) := tellL (covH h) h.ws.length (sizeH h) [] 0
theorem small_mem {h : Hs} {x : List Int} : x ∈ smallL h ↔ x.length = sizeH h ∧ Asc 0 h.ws.length x ∧ covH h x = true := by
  unfold smallL
  rw [tell_mem]
  constructor
  · rintro ⟨e, h1, h2, h3, h4⟩
    rw [List.nil_append] at h1
    subst h1
    exact ⟨h2, h3, h4⟩
  · rintro ⟨h2, h3, h4⟩
    exact ⟨x, rfl, h2, h3, h4⟩
theorem small_head {h : Hs} (k : HsOK h) : (smallL h).head? = some (fewH h) := by
  unfold smallL
  rw [← tell_head]; exact (few_is k).1
def trustB (h : Hs) (i : Nat) : Bool := !(smallL h).any fun l => memI (i : Int) l
def trustH (h : Hs) : List Int := someW (trustB h) h.ws.length
theorem trust_iff {h : Hs} {i : Nat} : trustB h i = true ↔ ∀ l, l.length = sizeH h → Asc 0 h.ws.length l → covH h l = true → (i : Int) ∉ l := by
  unfold trustB
  rw [Bool.not_eq_true', List.any_eq_false]
  constructor
  · intro h1 l a1 a2 a3 hm
    exact h1 l (small_mem.2 ⟨a1, a2, a3⟩) (mem_memI.2 hm)
  · intro h1 l hl hm
    obtain ⟨a1, a2, a3⟩ := small_mem.1 hl
    exact h1 l a1 a2 a3 (mem_memI.1 hm)
/-! ### Houses that clash alike -/
theorem cov_same {h u : Hs} (hl : h.ws.length = u.ws.length) (hc : ∀ a b, a < h.ws.length → b < h.ws.length → claH h a b = claH u a b) (l : List Int) : covH h l = covH u l := by
  rw [Bool.eq_iff_iff, cov_iff, cov_iff]
  constructor
  · intro h1 a b ha hb
    rw [← hl] at ha
    rw [mem_bel, ← hl] at hb
    exact h1 a b ha (mem_bel.2 ⟨hb.1, by rw [hc a b ha hb.1]; exact hb.2⟩)
  · intro h1 a b ha hb
    rw [mem_bel] at hb
    have hb2 := hb.2
    rw [hc a b ha hb.1] at hb2
    exact h1 a b (by rw [← hl]; exact ha) (mem_bel.2 ⟨by rw [← hl]; exact hb.1, hb2⟩)
theorem few_same {h u : Hs} (k : HsOK h) (ku : HsOK u) (hl : h.ws.length = u.ws.length) (hc : ∀ a b, a < h.ws.length → b < h.ws.length → claH h a b = claH u a b) : fewH h = fewH u ∧ trustH h = trustH u := by
  have e : covH h = covH u := funext (cov_same hl hc)
  obtain ⟨-, f1, -, -, f2, -⟩ := few_is k
  obtain ⟨-, u1, -, -, u2, -⟩ := few_is ku
  rw [e, hl, u1] at f1
  have ef : fewH h = fewH u := by injection f1 with f1; exact f1.symm
  refine ⟨ef, ?_⟩
  have es : sizeH h = sizeH u := by rw [← f2, ← u2, ef]
  unfold trustH
  rw [hl]
  apply someW_congr
  intro i hi
  unfold trustB smallL
  rw [e, hl, es]
/-! ### The months told from the last one -/
def turnW (n : Int) (w : Wg) : Wg := { w with mo := n - 1 - w.mo }
def turnH (h : Hs) : Hs := ⟨h.mo, h.mo - 1 - h.pk, h.ws.map (turnW h.mo)⟩
section
variable {h : Hs}
theorem turn_ok (k : HsOK h) : HsOK (turnH h) where
  mo := k.mo
  len := by unfold turnH; simp only [List.length_map]; exact k.len
  pk := by have := k.pk; unfold turnH; dsimp only; omega
  wm := fun w hw => by
    unfold turnH at hw ⊢
    obtain ⟨v, hv, rfl⟩ := List.mem_map.1 hw
    have := k.wm v hv
    unfold turnW
    dsimp only
    omega
  ms := fun w hw => by
    unfold turnH at hw
    obtain ⟨v, hv, rfl⟩ := List.mem_map.1 hw
    exact k.ms v hv
theorem turn_und (a b : Int) : undH (turnH h) (h.mo - 1 - a) (h.mo - 1 - b) = undH h a b := by
  rw [Bool.eq_iff_iff, und_iff, und_iff]
  unfold turnH
  dsimp only
  omega
theorem turn_at {i : Nat} (hi : i < h.ws.length) : wgAt (turnH h) i = turnW h.mo (wgAt h i) := by
  unfold wgAt turnH
  rw [List.getD_eq_getElem?_getD, List.getD_eq_getElem?_getD, List.getElem?_map, List.getElem?_eq_getElem hi]; rfl
theorem turn_cla {a b : Nat} (ha : a < h.ws.length) (hb : b < h.ws.length) : claH h a b = claH (turnH h) a b := by
  unfold claH
  rw [turn_at ha, turn_at hb]
  have := turn_und (h := h) (wgAt h a).mo (wgAt h b).mo
  unfold turnW
  dsimp only
  rw [this]; rfl
theorem turn_len : h.ws.length = (turnH h).ws.length := by unfold turnH; simp
theorem turn_few (k : HsOK h) : fewH h = fewH (turnH h) ∧ trustH h = trustH (turnH h) := few_same k (turn_ok k) turn_len fun a b ha hb => turn_cla ha hb
theorem turn_lows (m : Int) : lowsH (turnH h) (h.mo - 1 - m) = lowsH h m ∧ upsH (turnH h) (h.mo - 1 - m) = upsH h m := by
  unfold lowsH upsH
  have e : (turnH h).ws = h.ws.map (turnW h.mo) := rfl
  rw [e, List.filter_map, List.filter_map, List.map_map, List.map_map]
  constructor
  · have : ((fun w => undH (turnH h) w.mo (h.mo - 1 - m)) ∘ turnW h.mo) = fun w => undH h w.mo m := funext fun w => turn_und w.mo m
    rw [this]; rfl
  · have : ((fun w => undH (turnH h) (h.mo - 1 - m) w.mo) ∘ turnW h.mo) = fun w => undH h m w.mo := funext fun w => turn_und m w.mo
    rw [this]; rfl
theorem turn_agr : agrH (turnH h) = agrH h := by
  rw [Bool.eq_iff_iff, agr_iff, agr_iff, ← turn_len]
  constructor
  · intro h1 a b ha hb; rw [turn_cla ha hb]; exact h1 a b ha hb
  · intro h1 a b ha hb; rw [← turn_cla ha hb]; exact h1 a b ha hb
theorem turn_bnd (k : HsOK h) {m : Int} (hm : 0 ≤ m ∧ m < h.mo) : bndE (turnH h) (h.mo - 1 - m) = bndE h m ∧ bndL (turnH h) (h.mo - 1 - m) = bndL h m ∧ bndU (turnH h) (h.mo - 1 - m) = bndU h m := by
  have e1 : bndE (turnH h) (h.mo - 1 - m) = bndE h m := by
    unfold bndE
    rw [checkH_of k, checkH_of (turn_ok k), turn_agr, (turn_lows m).1, (turn_lows m).2]
    have m1 : moOK h m = true := by unfold moOK; rw [inB_iff]; omega
    have m2 : moOK (turnH h) (h.mo - 1 - m) = true := by
      unfold moOK
      rw [inB_iff]
      show 0 ≤ h.mo - 1 - m ∧ h.mo - 1 - m ≤ h.mo - 1
      omega
    rw [m1, m2]
  refine ⟨e1, ?_, ?_⟩
  · unfold bndL; rw [e1, (turn_lows m).1]
  · unfold bndU; rw [e1, (turn_lows m).2]
end
end Go.Proofs.YtjnobdcbbboeeaaGreat

namespace Go.Proofs.YtjnobdcbbboeeaaGreat
open Go Go.RowKit
set_option linter.unusedVariables false
set_option linter.unusedSimpArgs false

def addH (h : Hs) (w : Wg) : Hs := { h with ws := h.ws ++ [w] }
def ptW (m : Int) (n d : Int) : Wg := ⟨m, d, d, n, n⟩
/-- A weighing that is right. -/
structure WgOK (h : Hs) (w : Wg) : Prop where
  wm : 0 ≤ w.mo ∧ w.mo < h.mo
  ms : (1 ≤ w.sl ∧ w.sl ≤ w.sh ∧ w.sh ≤ 1000) ∧ (1 ≤ w.ml ∧ w.ml ≤ w.mh ∧ w.mh ≤ 1000)
section
variable {h : Hs} {w : Wg}
theorem add_ok (k : HsOK h) (hl : h.ws.length ≤ 13) (hw : WgOK h w) : HsOK (addH h w) where
  mo := k.mo
  len := by unfold addH; simp only [List.length_append, List.length_singleton]; omega
  pk := k.pk
  wm := fun v hv => by
    rcases List.mem_append.1 hv with hv | hv
    · exact k.wm v hv
    · rw [List.mem_singleton.1 hv]; exact hw.wm
  ms := fun v hv => by
    rcases List.mem_append.1 hv with hv | hv
    · exact k.ms v hv
    · rw [List.mem_singleton.1 hv]; exact hw.ms
/-- All agree, said of weighings. -/
theorem agr_mem : agrH h = true ↔ ∀ v ∈ h.ws, ∀ u ∈ h.ws, undH h v.mo u.mo = true → leR v.lo u.hi := by
  rw [agr_iff]
  constructor
  · intro h1 v hv u hu hund
    obtain ⟨i, hi, rfl⟩ := mem_wgAt hv
    obtain ⟨j, hj, rfl⟩ := mem_wgAt hu
    have := h1 i j hi hj
    rw [← Bool.not_eq_true, claH_iff] at this
    exact Classical.not_not.1 fun x => this ⟨hund, x⟩
  · intro h1 a b ha hb
    rw [← Bool.not_eq_true, claH_iff]
    rintro ⟨q1, q2⟩
    exact q2 (h1 _ (wgAt_mem ha) _ (wgAt_mem hb) q1)
theorem agr_add : agrH (addH h w) = true ↔ agrH h = true ∧ (∀ v ∈ h.ws, undH h v.mo w.mo = true → leR v.lo w.hi) ∧ (∀ v ∈ h.ws, undH h w.mo v.mo = true → leR w.lo v.hi) ∧ leR w.lo w.hi := by
  rw [agr_mem, agr_mem]
  have e : (addH h w).ws = h.ws ++ [w] := rfl
  have eu : ∀ a b, undH (addH h w) a b = undH h a b := fun a b => rfl
  rw [e]
  constructor
  · intro h1
    refine ⟨fun v hv u hu q => h1 v (List.mem_append_left _ hv) u (List.mem_append_left _ hu) q, fun v hv q => h1 v (List.mem_append_left _ hv) w (by simp) q, fun v hv q => h1 w (by simp) v (List.mem_append_left _ hv) q, h1 w (by simp) w (by simp) (und_refl h _)⟩
  · rintro ⟨h1, h2, h3, h4⟩ v hv u hu q
    rw [eu] at q
    rcases List.mem_append.1 hv with hv | hv <;> rcases List.mem_append.1 hu with hu | hu
    · exact h1 v hv u hu q
    · rw [List.mem_singleton.1 hu] at q ⊢; exact h2 v hv q
    · rw [List.mem_singleton.1 hv] at q ⊢; exact h3 u hu q
    · rw [List.mem_singleton.1 hv, List.mem_singleton.1 hu]; exact h4
theorem pt_lohi (m n d : Int) : (ptW m n d).lo = lowR n d ∧ (ptW m n d).hi = lowR n d := ⟨rfl, rfl⟩
theorem add_lows (m : Int) : (∀ r ∈ lowsH h m, r ∈ lowsH (addH h w) m) ∧ (∀ r ∈ upsH h m, r ∈ upsH (addH h w) m) := by
  constructor
  · intro r hr
    obtain ⟨v, h1, h2, h3⟩ := low_mem.1 hr
    exact low_mem.2 ⟨v, List.mem_append_left _ h1, h2, h3⟩
  · intro r hr
    obtain ⟨v, h1, h2, h3⟩ := up_mem.1 hr
    exact up_mem.2 ⟨v, List.mem_append_left _ h1, h2, h3⟩
theorem leR_low {n d : Int} (hn : 0 < n) (hd : 0 < d) {r : Rt} (hr : Rpos r) : (leR (lowR n d) r ↔ n * r.2 ≤ r.1 * d) ∧ (leR r (lowR n d) ↔ r.1 * d ≤ n * r.2) := by
  have h1 := lowR_ok hn hd
  have h2 := low_self r hr.1 hr.2
  have a1 := abv_low h1 h2
  have a2 := abv_low h2 h1
  constructor
  · rw [← abv_not, a1, decide_eq_false_iff_not]; omega
  · rw [← abv_not, a2, decide_eq_false_iff_not]; omega
/-- With a ratio at a bound all still agree; with one outside they do not. -/
theorem bnd_in (k : HsOK h) (ha : agrH h = true) {m : Int} {lo hi : Rt} (b : BndOK h m lo hi) {n d : Int} (hn : 0 < n) (hd : 0 < d) : agrH (addH h (ptW m n d)) = decide (lo.1 * d ≤ n * lo.2 ∧ n * hi.2 ≤ hi.1 * d) := by
  rw [Bool.eq_iff_iff, agr_add, decide_eq_true_eq]
  have pn := lowR_pos hn hd
  have e1 := (leR_low hn hd b.pl).2
  have e2 := (leR_low hn hd b.ph).1
  rw [(pt_lohi m n d).1, (pt_lohi m n d).2, ← e1, ← e2]
  constructor
  · rintro ⟨-, h2, h3, -⟩
    obtain ⟨v, v1, v2, v3⟩ := low_mem.1 b.isl
    obtain ⟨u, u1, u2, u3⟩ := up_mem.1 b.ish
    exact ⟨by rw [← v3]; exact h2 v v1 v2, by rw [← u3]; exact h3 u u1 u2⟩
  · rintro ⟨h2, h3⟩
    refine ⟨ha, fun v hv q => ?_, fun v hv q => ?_, leR_refl _⟩
    · exact leR_trans (k.pos hv).1 b.pl pn (b.gel _ (low_mem.2 ⟨v, hv, q, rfl⟩)) h2
    · exact leR_trans pn b.ph (k.pos hv).2 h3 (b.leh _ (up_mem.2 ⟨v, hv, q, rfl⟩))
theorem bndE_cases (k : HsOK h) {m : Int} (hm : 0 ≤ m ∧ m < h.mo) : bndE h m = if agrH h = false then 7 else if (lowsH h m).length = 0 ∨ (upsH h m).length = 0 then 6 else 0 := by
  have m1 : moOK h m = true := by unfold moOK; rw [inB_iff]; omega
  unfold bndE
  rw [if_neg (fun x => x (checkH_of k)), m1]
  simp only [Bool.true_eq_false, if_false]
/-- A weighing more never makes a bound wider. -/
theorem bnd_more (k : HsOK h) (ku : HsOK (addH h w)) {m : Int} (e : bndE h m = 0) (f : bndE (addH h w) m = 0) : leR (bndL h m) (bndL (addH h w) m) ∧ leR (bndU (addH h w) m) (bndU h m) := by
  have b1 := bnd_ok k e
  have b2 := bnd_ok ku f
  exact ⟨b2.gel _ ((add_lows m).1 _ b1.isl), b2.leh _ ((add_lows m).2 _ b1.ish)⟩
theorem len_zero {α : Type} {l l' : List α} (h : ∀ r ∈ l, r ∈ l') (h0 : l'.length = 0) : l.length = 0 := by
  cases l with
  | nil => rfl
  | cons x l =>
    have := h x List.mem_cons_self
    rw [List.length_eq_zero_iff.1 h0] at this; cases this
end
end Go.Proofs.YtjnobdcbbboeeaaGreat

namespace Go.Proofs.YtjnobdcbbboeeaaGreat
open Go Go.RowKit
set_option linter.unusedVariables false
set_option linter.unusedSimpArgs false

section
variable {h : Hs}
theorem size_le (k : HsOK h) {l : List Int} (hl : ∀ x ∈ l, 0 ≤ x) (hc : ∀ a b : Nat, a < h.ws.length → b < h.ws.length → claH h a b = true → (a : Int) ∈ l ∨ (b : Int) ∈ l) : sizeH h ≤ l.length :=
  cov_ge k hl (cov_iff.2 fun a b ha hb => hc a b ha (mem_bel.1 hb).1 (mem_bel.1 hb).2)
theorem few_cov (k : HsOK h) : (fewH h).length = sizeH h ∧ (∀ x ∈ fewH h, 0 ≤ x ∧ x < h.ws.length) ∧ ∀ a b : Nat, a < h.ws.length → b < h.ws.length → claH h a b = true → (a : Int) ∈ fewH h ∨ (b : Int) ∈ fewH h := by
  obtain ⟨-, -, f1, f2, f3, -⟩ := few_is k
  refine ⟨f3, fun x hx => by have := f1.mem x hx; omega, fun a b ha hb hc => cov_iff.1 f2 a b ha (mem_bel.2 ⟨hb, hc⟩)⟩
/-- A set that covers, as a list in order. -/
theorem small_of (k : HsOK h) {l : List Int} (hl : ∀ x ∈ l, 0 ≤ x ∧ x < h.ws.length) (hs : l.length ≤ sizeH h) (hc : ∀ a b : Nat, a < h.ws.length → b < h.ws.length → claH h a b = true → (a : Int) ∈ l ∨ (b : Int) ∈ l) :
    ∃ x, x.length = sizeH h ∧ Asc 0 h.ws.length x ∧ covH h x = true ∧ ∀ y, y ∈ x ↔ y ∈ l := by
  have hm : ∀ y, y ∈ someW (fun i => memI (i : Int) l) h.ws.length ↔ y ∈ l := fun y => by
    rw [mem_someW, mem_memI]
    constructor
    · rintro ⟨q1, q2, q3⟩
      rwa [Int.toNat_of_nonneg q1] at q3
    · intro q
      have := hl y q
      exact ⟨this.1, this.2, by rwa [Int.toNat_of_nonneg this.1]⟩
  have hcv : covH h (someW (fun i => memI (i : Int) l) h.ws.length) = true := cov_iff.2 fun a b ha hb => by
    rw [hm, hm]; exact hc a b ha (mem_bel.1 hb).1 (mem_bel.1 hb).2
  have ha := someW_asc (fun i => memI (i : Int) l) h.ws.length
  refine ⟨_, ?_, ha, hcv, hm⟩
  have h1 := cov_ge k (asc_pos ha) hcv
  have hnd : (someW (fun i => memI (i : Int) l) h.ws.length).Nodup := ha.lt.imp (fun {a b} hab => by omega)
  have h2 := nodup_le _ l hnd (fun x hx => (hm x).1 hx)
  omega
theorem few_trust (k : HsOK h) : ∀ x ∈ fewH h, x ∉ trustH h := fun x hx ht => by
  obtain ⟨-, -, f1, f2, f3, -⟩ := few_is k
  obtain ⟨t1, t2, t3⟩ := mem_someW.1 ht
  have := trust_iff.1 t3 (fewH h) f3 f1 f2
  rw [Int.toNat_of_nonneg t1] at this
  exact this hx
/-! ### Without one -/
def lessH1 (h : Hs) (n : Nat) : Hs := { h with ws := h.ws.eraseIdx n }
def upI (n i : Nat) : Nat := if i < n then i else i + 1
def dnI (n : Nat) (x : Int) : Int := if x < n then x else x - 1
theorem less_len {n : Nat} (hn : n < h.ws.length) : (lessH1 h n).ws.length = h.ws.length - 1 := by
  unfold lessH1; rw [List.length_eraseIdx, if_pos hn]
theorem less_at {n : Nat} (hn : n < h.ws.length) {i : Nat} (hi : i < h.ws.length - 1) : wgAt (lessH1 h n) i = wgAt h (upI n i) := by
  unfold wgAt lessH1 upI
  rw [List.getD_eq_getElem?_getD, List.getD_eq_getElem?_getD, List.getElem?_eraseIdx]
  by_cases e : i < n
  · rw [if_pos e, if_pos e]
  · rw [if_neg e, if_neg e]
theorem less_ok (k : HsOK h) (n : Nat) : HsOK (lessH1 h n) where
  mo := k.mo
  len := by have := k.len; have := List.length_eraseIdx_le h.ws n; unfold lessH1; dsimp only; omega
  pk := k.pk
  wm := fun w hw => k.wm w (List.mem_of_mem_eraseIdx hw)
  ms := fun w hw => k.ms w (List.mem_of_mem_eraseIdx hw)
theorem less_cla {n : Nat} (hn : n < h.ws.length) {a b : Nat} (ha : a < h.ws.length - 1) (hb : b < h.ws.length - 1) : claH (lessH1 h n) a b = claH h (upI n a) (upI n b) := by
  unfold claH
  rw [less_at hn ha, less_at hn hb]; rfl
theorem up_ne (n i : Nat) : upI n i ≠ n := by unfold upI; split <;> omega
theorem up_lt {n i N : Nat} (hn : n < N) (hi : i < N - 1) : upI n i < N := by unfold upI; split <;> omega
theorem dn_up (n i : Nat) : dnI n ((upI n i : Nat) : Int) = (i : Int) := by unfold dnI upI; split <;> split <;> omega
theorem up_dn {n : Nat} {x : Nat} (hx : x ≠ n) : ((upI n (dnI n (x : Int)).toNat : Nat) : Int) = (x : Int) ∧ 0 ≤ dnI n (x : Int) := by
  unfold upI dnI
  split <;> split <;> omega
/-- A set of the house, without the one: of the house without it. -/
theorem less_le (k : HsOK h) {n : Nat} (hn : n < h.ws.length) {l : List Int} (hl : ∀ x ∈ l, 0 ≤ x) (hc : ∀ a b : Nat, a < h.ws.length → b < h.ws.length → claH h a b = true → (a : Int) ∈ l ∨ (b : Int) ∈ l) :
    sizeH (lessH1 h n) ≤ (l.filter fun x => x != (n : Int)).length := by
  have h1 := size_le (less_ok k n) (l := (l.filter fun x => x != (n : Int)).map (dnI n)) (fun x hx => by
    obtain ⟨y, hy, rfl⟩ := List.mem_map.1 hx
    obtain ⟨y1, y2⟩ := List.mem_filter.1 hy
    have h0 := hl y y1
    have hne : y ≠ (n : Int) := by simpa using y2
    unfold dnI
    split <;> omega) (fun a b ha hb he => by
      rw [less_len hn] at ha hb
      rw [less_cla hn ha hb] at he
      have key : ∀ i, ((upI n i : Nat) : Int) ∈ l → (i : Int) ∈ (l.filter fun x => x != (n : Int)).map (dnI n) := fun i hi => by
        refine List.mem_map.2 ⟨_, List.mem_filter.2 ⟨hi, ?_⟩, dn_up n i⟩
        have := up_ne n i
        simp; omega
      rcases hc _ _ (up_lt hn ha) (up_lt hn hb) he with x | x
      · exact .inl (key a x)
      · exact .inr (key b x))
  rwa [List.length_map] at h1
theorem filter_ne_len {l : List Int} {n : Int} (hm : n ∈ l) : (l.filter fun x => x != n).length + 1 ≤ l.length := by
  induction l with
  | nil => cases hm
  | cons x l ih =>
    rcases List.mem_cons.1 hm with rfl | hm
    · have := List.length_filter_le (fun x => x != n) l
      rw [List.filter_cons, if_neg (by simp)]
      simp only [List.length_cons]; omega
    · have := ih hm
      rw [List.filter_cons]
      split <;> simp only [List.length_cons] <;> omega
/-- A set of the house without it, and the one: of the house. -/
theorem less_ge (k : HsOK h) {n : Nat} (hn : n < h.ws.length) : ∃ l : List Int, l.length = sizeH (lessH1 h n) + 1 ∧ (n : Int) ∈ l ∧ (∀ x ∈ l, 0 ≤ x ∧ x < h.ws.length) ∧ ∀ a b : Nat, a < h.ws.length → b < h.ws.length → claH h a b = true → (a : Int) ∈ l ∨ (b : Int) ∈ l := by
  obtain ⟨f1, f2, f3⟩ := few_cov (less_ok k n)
  rw [less_len hn] at f2 f3
  refine ⟨(n : Int) :: (fewH (lessH1 h n)).map fun x => ((upI n x.toNat : Nat) : Int), by simp [f1], List.mem_cons_self, fun x hx => ?_, fun a b ha hb he => ?_⟩
  · rcases List.mem_cons.1 hx with rfl | hx
    · omega
    · obtain ⟨y, hy, rfl⟩ := List.mem_map.1 hx
      have h1 := f2 y hy
      have h2 := up_lt (n := n) (i := y.toNat) hn (by omega)
      omega
  · have key : ∀ x : Nat, x < h.ws.length → x ≠ n → (dnI n (x : Int)).toNat < h.ws.length - 1 := fun x hx hne => by
      unfold dnI; split <;> omega
    by_cases ea : a = n
    · exact .inl (by rw [ea]; exact List.mem_cons_self)
    · by_cases eb : b = n
      · exact .inr (by rw [eb]; exact List.mem_cons_self)
      · obtain ⟨u1, u2⟩ := up_dn (n := n) ea
        obtain ⟨v1, v2⟩ := up_dn (n := n) eb
        have e1 : upI n (dnI n (a : Int)).toNat = a := by omega
        have e2 : upI n (dnI n (b : Int)).toNat = b := by omega
        have hq : claH (lessH1 h n) (dnI n (a : Int)).toNat (dnI n (b : Int)).toNat = true := by
          rw [less_cla hn (key a ha ea) (key b hb eb), e1, e2]; exact he
        rcases f3 _ _ (key a ha ea) (key b hb eb) hq with x | x
        · rw [Int.toNat_of_nonneg u2] at x
          exact .inl (List.mem_cons_of_mem _ (List.mem_map.2 ⟨_, x, u1⟩))
        · rw [Int.toNat_of_nonneg v2] at x
          exact .inr (List.mem_cons_of_mem _ (List.mem_map.2 ⟨_, x, v1⟩))
structure GrownOK (h : Hs) (n : Nat) : Prop where
  le : (fewH (lessH1 h n)).length ≤ (fewH h).length
  ge : (fewH h).length ≤ (fewH (lessH1 h n)).length + 1
  isin : (n : Int) ∈ fewH h → (fewH (lessH1 h n)).length + 1 = (fewH h).length
  trust : (n : Int) ∈ trustH h ↔ (fewH (lessH1 h n)).length = (fewH h).length
theorem grown_ok (k : HsOK h) {n : Nat} (hn : n < h.ws.length) : GrownOK h n := by
  obtain ⟨f1, f2, f3⟩ := few_cov k
  obtain ⟨g1, -, -⟩ := few_cov (less_ok k n)
  obtain ⟨l, l1, l2, l3, l4⟩ := less_ge k hn
  have h1 := less_le k hn (fun x hx => (f2 x hx).1) f3
  have h2 := List.length_filter_le (fun x => x != (n : Int)) (fewH h)
  have h3 := size_le k (fun x hx => (l3 x hx).1) l4
  refine ⟨by omega, by omega, fun hm => ?_, ?_⟩
  · have := filter_ne_len hm; omega
  · constructor
    · intro ht
      refine Nat.le_antisymm (by omega) (Nat.not_lt.1 fun hlt => ?_)
      obtain ⟨x, x1, x2, x3, x4⟩ := small_of k l3 (by omega) l4
      obtain ⟨-, -, t3⟩ := mem_someW.1 ht
      exact trust_iff.1 t3 x x1 x2 x3 (by rw [Int.toNat_natCast]; exact (x4 _).2 l2)
    · intro he
      refine mem_someW.2 ⟨by omega, by omega, trust_iff.2 fun x x1 x2 x3 hm => ?_⟩
      rw [Int.toNat_natCast] at hm
      have q := less_le k hn (asc_pos x2) (fun a b ha hb hc => cov_iff.1 x3 a b ha (mem_bel.2 ⟨hb, hc⟩))
      have := filter_ne_len hm
      omega
/-- What clashes less has no greater sets. -/
theorem wide_le (k : HsOK h) {u : Hs} (ku : HsOK u) (hl : u.ws.length = h.ws.length) (hc : ∀ a b, a < h.ws.length → b < h.ws.length → claH u a b = true → claH h a b = true) : (fewH u).length ≤ (fewH h).length := by
  obtain ⟨f1, f2, f3⟩ := few_cov k
  obtain ⟨g1, -, -⟩ := few_cov ku
  have := size_le ku (fun x hx => (f2 x hx).1) (fun a b ha hb he => by
    rw [hl] at ha hb
    exact f3 a b ha hb (hc a b ha hb he))
  omega
/-- One weighing with wider spans. -/
theorem wide_cla (k : HsOK h) {n : Nat} (hn : n < h.ws.length) {w : Wg} (hw : WgOK h w) (hm : w.mo = (wgAt h n).mo) (h1 : w.sl = (wgAt h n).sl) (h2 : (wgAt h n).sh ≤ w.sh) (h3 : w.ml ≤ (wgAt h n).ml) (h4 : w.mh = (wgAt h n).mh) :
    HsOK { h with ws := h.ws.set n w } ∧ ∀ a b, a < h.ws.length → b < h.ws.length → claH { h with ws := h.ws.set n w } a b = true → claH h a b = true := by
  have hat : ∀ i, i < h.ws.length → wgAt { h with ws := h.ws.set n w } i = if i = n then w else wgAt h i := fun i hi => by
    unfold wgAt
    rw [List.getD_eq_getElem?_getD, List.getD_eq_getElem?_getD]
    by_cases e : i = n
    · subst e; rw [List.getElem?_set_self hi, if_pos rfl]; rfl
    · rw [List.getElem?_set_ne (fun x => e x.symm), if_neg e]
  have mw := wgAt_mem hn
  have hml := k.ms _ mw
  have plo : Rpos w.lo := lowR_pos (by have := hw.ms; omega) (by have := hw.ms; omega)
  have hlo : leR w.lo (wgAt h n).lo := by
    have l1 : LowOK w.ml w.sh (gcdZ w.ml w.sh) w.lo := lowR_ok (by have := hw.ms; omega) (by have := hw.ms; omega)
    rw [← abv_not, abv_low l1 (k.low mw).1, decide_eq_false_iff_not]
    have q1 := Int.mul_le_mul_of_nonneg_right h3 (show 0 ≤ (wgAt h n).sh by omega)
    have q2 := Int.mul_le_mul_of_nonneg_left h2 (show 0 ≤ (wgAt h n).ml by omega)
    omega
  have hhi : w.hi = (wgAt h n).hi := by unfold Wg.hi; rw [h1, h4]
  refine ⟨⟨k.mo, by simp only [List.length_set]; exact k.len, k.pk, fun v hv => ?_, fun v hv => ?_⟩, fun a b ha hb => ?_⟩
  · rcases List.mem_or_eq_of_mem_set hv with hv | rfl
    · exact k.wm v hv
    · exact hw.wm
  · rcases List.mem_or_eq_of_mem_set hv with hv | rfl
    · exact k.ms v hv
    · exact hw.ms
  · rw [claH_iff, claH_iff, hat a ha, hat b hb]
    have e1 : (if a = n then w else wgAt h a).mo = (wgAt h a).mo := by
      by_cases e : a = n
      · rw [if_pos e, e, hm]
      · rw [if_neg e]
    have e2 : (if b = n then w else wgAt h b).mo = (wgAt h b).mo := by
      by_cases e : b = n
      · rw [if_pos e, e, hm]
      · rw [if_neg e]
    have e3 : (if b = n then w else wgAt h b).hi = (wgAt h b).hi := by
      by_cases e : b = n
      · rw [if_pos e, e, hhi]
      · rw [if_neg e]
    rw [e1, e2, e3]
    rintro ⟨q1, q2⟩
    refine ⟨q1, fun q3 => q2 ?_⟩
    by_cases e : a = n
    · rw [if_pos e]
      rw [e] at q3
      exact leR_trans plo (k.pos mw).1 (k.pos (wgAt_mem hb)).2 hlo q3
    · rw [if_neg e]; exact q3
end
end Go.Proofs.YtjnobdcbbboeeaaGreat

namespace Go.Proofs.YtjnobdcbbboeeaaGreat
open Go Go.RowKit
set_option linter.unusedVariables false
set_option linter.unusedSimpArgs false

structure MadeH (M W : Nat) (wrong : Nat) (h : Hs) (real : List Rt) : Prop where
  ok : HsOK h
  mo : h.mo ≤ M
  ws : h.ws.length ≤ W
  rl : RtsOK h real
  tr : truthH h real = true
  rs : ∀ r ∈ real, 8 ≤ r.1 ∧ r.1 ≤ 90 ∧ r.2 = 200
  all : wrong = 0 → ∀ w ∈ h.ws, holdW w (rtAt real w.mo) = true
/-- A weighing as Made makes it. -/
def madeW (m s k u1 u2 u3 u4 : Int) : Wg := ⟨m, max 1 (s - u1), s + u2, max 1 ((s * k).tdiv 200 - u3), (s * k).tdiv 200 + 1 + u4⟩
theorem made_meat {s k : Int} (hs : 30 ≤ s ∧ s ≤ 400) (hk : 8 ≤ k ∧ k ≤ 90) : 0 ≤ (s * k).tdiv 200 ∧ (s * k).tdiv 200 ≤ 180 ∧ (s * k).tdiv 200 * 200 ≤ s * k ∧ s * k < ((s * k).tdiv 200 + 1) * 200 ∧ 240 ≤ s * k := by
  have h1 : 30 * 8 ≤ s * k := Int.mul_le_mul hs.1 hk.1 (by decide) (by omega)
  have h2 : s * k ≤ 400 * 90 := Int.mul_le_mul hs.2 hk.2 (by omega) (by decide)
  have e : (s * k).tdiv 200 = (s * k) / 200 := Int.tdiv_eq_ediv_of_nonneg (by omega)
  rw [e]
  generalize s * k = p at *
  omega
theorem made_wg {h : Hs} {m s k u1 u2 u3 u4 : Int} (hm : 0 ≤ m ∧ m < h.mo) (hs : 30 ≤ s ∧ s ≤ 400) (hk : 8 ≤ k ∧ k ≤ 90) (h1 : 0 ≤ u1 ∧ u1 ≤ 4) (h2 : 0 ≤ u2 ∧ u2 ≤ 4) (h3 : 0 ≤ u3 ∧ u3 ≤ 3) (h4 : 0 ≤ u4 ∧ u4 ≤ 3) :
    ((1 ≤ (madeW m s k u1 u2 u3 u4).sl ∧ (madeW m s k u1 u2 u3 u4).sl ≤ (madeW m s k u1 u2 u3 u4).sh ∧ (madeW m s k u1 u2 u3 u4).sh ≤ 1000) ∧ (1 ≤ (madeW m s k u1 u2 u3 u4).ml ∧ (madeW m s k u1 u2 u3 u4).ml ≤ (madeW m s k u1 u2 u3 u4).mh ∧ (madeW m s k u1 u2 u3 u4).mh ≤ 1000)) ∧
    holdW (madeW m s k u1 u2 u3 u4) (k, 200) = true := by
  obtain ⟨q1, q2, q3, q4, q5⟩ := made_meat hs hk
  obtain ⟨t, ht⟩ : ∃ t, (s * k).tdiv 200 = t := ⟨_, rfl⟩
  rw [ht] at q1 q2 q3 q4
  have hms : (1 ≤ (madeW m s k u1 u2 u3 u4).sl ∧ (madeW m s k u1 u2 u3 u4).sl ≤ (madeW m s k u1 u2 u3 u4).sh ∧ (madeW m s k u1 u2 u3 u4).sh ≤ 1000) ∧ (1 ≤ (madeW m s k u1 u2 u3 u4).ml ∧ (madeW m s k u1 u2 u3 u4).ml ≤ (madeW m s k u1 u2 u3 u4).mh ∧ (madeW m s k u1 u2 u3 u4).mh ≤ 1000) := by
    unfold madeW
    dsimp only
    rw [ht]
    omega
  refine ⟨hms, hold_iff.2 ⟨?_, ?_⟩⟩
  · have l := lowR_ok (n := (madeW m s k u1 u2 u3 u4).ml) (d := (madeW m s k u1 u2 u3 u4).sh) (by omega) (by omega)
    have r := low_self (k, 200) (by show 0 < k; omega) (by show (0 : Int) < 200; decide)
    show leR (lowR _ _) _
    rw [← abv_not, abv_low l r, decide_eq_false_iff_not]
    unfold madeW
    dsimp only
    rw [ht]
    have e : k * (s + u2) = s * k + k * u2 := by rw [Int.mul_add, Int.mul_comm k s]
    have e2 : 0 ≤ k * u2 := Int.mul_nonneg (by omega) h2.1
    rw [e]
    omega
  · have l := lowR_ok (n := (madeW m s k u1 u2 u3 u4).mh) (d := (madeW m s k u1 u2 u3 u4).sl) (by omega) (by omega)
    have r := low_self (k, 200) (by show 0 < k; omega) (by show (0 : Int) < 200; decide)
    show leR _ (lowR _ _)
    rw [← abv_not, abv_low r l, decide_eq_false_iff_not]
    unfold madeW
    dsimp only
    rw [ht]
    have e : k * max 1 (s - u1) ≤ k * s := Int.mul_le_mul_of_nonneg_left (by omega) (by omega)
    have e3 : k * s = s * k := Int.mul_comm k s
    omega
/-- With a mistake. -/
theorem made_by {w : Wg} (h : (1 ≤ w.sl ∧ w.sl ≤ w.sh ∧ w.sh ≤ 1000) ∧ (1 ≤ w.ml ∧ w.ml ≤ w.mh ∧ w.mh ≤ 900)) {by_ : Int} (hb : -12 ≤ by_ ∧ by_ ≤ 12) : (1 ≤ w.sl ∧ w.sl ≤ w.sh ∧ w.sh ≤ 1000) ∧ (1 ≤ max 1 (w.ml + by_) ∧ max 1 (w.ml + by_) ≤ max 1 (w.mh + by_) ∧ max 1 (w.mh + by_) ≤ 1000) := by
  omega
end Go.Proofs.YtjnobdcbbboeeaaGreat

namespace Go.Proofs.YtjnobdcbbboeeaaGreat
open Go Go.RowKit
set_option linter.unusedVariables false
set_option linter.unusedSimpArgs false

/-- Places lo .. hi of the ratios' numerators are as Made makes them. -/
structure RealS (pk lo hi : Nat) (f : Nat → Int) : Prop where
  rg : ∀ i, lo ≤ i → i < hi → 8 ≤ f i ∧ f i ≤ 90
  up : ∀ i, lo ≤ i → i + 1 < hi → i + 1 ≤ pk → f i ≤ f (i + 1)
  dn : ∀ i, lo ≤ i → i + 1 < hi → pk ≤ i → f (i + 1) ≤ f i
def updF (f : Nat → Int) (i : Nat) (x : Int) : Nat → Int := fun j => if j = i then x else f j
theorem updF_same (f : Nat → Int) (i : Nat) (x : Int) : updF f i x i = x := by simp [updF]
theorem updF_other (f : Nat → Int) {i j : Nat} (x : Int) (h : j ≠ i) : updF f i x j = f j := by simp [updF, h]
section
variable {pk lo hi m N : Nat} {f : Nat → Int} {k n : Int}
theorem RealS.one (f : Nat → Int) (hn : 8 ≤ n ∧ n ≤ 90) : RealS pk pk (pk + 1) (updF f pk n) where
  rg := fun i h1 h2 => by
    obtain rfl : i = pk := by omega
    rw [updF_same]; exact hn
  up := fun i h1 h2 => by omega
  dn := fun i h1 h2 => by omega
theorem RealS.down (h : RealS pk (m + 1) hi f) (hm : m + 1 ≤ pk) (hh : pk < hi) (hk : 8 ≤ k ∧ k ≤ f (m + 1)) : RealS pk m hi (updF f m k) where
  rg := fun i h1 h2 => by
    by_cases e : i = m
    · subst e
      have := h.rg (i + 1) (Nat.le_refl _) (by omega)
      rw [updF_same]; omega
    · rw [updF_other f k e]; exact h.rg i (by omega) h2
  up := fun i h1 h2 h3 => by
    rw [updF_other f k (show i + 1 ≠ m by omega)]
    by_cases e : i = m
    · subst e; rw [updF_same]; exact hk.2
    · rw [updF_other f k e]; exact h.up i (by omega) h2 h3
  dn := fun i h1 h2 h3 => by
    rw [updF_other f k (show i + 1 ≠ m by omega), updF_other f k (show i ≠ m by omega)]
    exact h.dn i (by omega) h2 h3
theorem RealS.upw (h : RealS pk lo m f) (hp : pk < m) (hl : lo < m) (hk : 8 ≤ k ∧ k ≤ f (m - 1)) : RealS pk lo (m + 1) (updF f m k) where
  rg := fun i h1 h2 => by
    by_cases e : i = m
    · subst e
      have := h.rg (i - 1) (by omega) (by omega)
      rw [updF_same]; omega
    · rw [updF_other f k e]; exact h.rg i h1 (by omega)
  up := fun i h1 h2 h3 => by
    rw [updF_other f k (show i + 1 ≠ m by omega), updF_other f k (show i ≠ m by omega)]
    exact h.up i h1 (by omega) h3
  dn := fun i h1 h2 h3 => by
    rw [updF_other f k (show i ≠ m by omega)]
    by_cases e : i + 1 = m
    · subst e; rw [updF_same]; simpa using hk.2
    · rw [updF_other f k e]; exact h.dn i h1 (by omega) h3
/-- The cells of the block of ratios. -/
structure RealC (N lo hi : Nat) (f : Nat → Int) (cur : List Value) : Prop where
  len : cur.length = N * 2
  at_ : ∀ i, lo ≤ i → i < hi → cur[i * 2]? = some (.int .i64 (f i)) ∧ cur[i * 2 + 1]? = some (.int .i64 200)
theorem RealC.set {cur : List Value} (h : RealC N lo hi f cur) {i lo' hi' : Nat} (hiN : i < N) (x : Int) (hl : ∀ j, lo' ≤ j → j < hi' → j = i ∨ (lo ≤ j ∧ j < hi)) :
    RealC N lo' hi' (updF f i x) ((cur.set (i * 2) (.int .i64 x)).set (i * 2 + 1) (.int .i64 200)) where
  len := by rw [List.length_set, List.length_set]; exact h.len
  at_ := fun j h1 h2 => by
    have hlen := h.len
    by_cases e : j = i
    · subst e
      rw [updF_same]
      constructor
      · rw [List.getElem?_set_ne (by omega), List.getElem?_set_self (by omega)]
      · rw [List.getElem?_set_self (by rw [List.length_set]; omega)]
    · rw [updF_other f x e]
      rw [List.getElem?_set_ne (by omega), List.getElem?_set_ne (by omega), List.getElem?_set_ne (by omega), List.getElem?_set_ne (by omega)]
      rcases hl j h1 h2 with h3 | h3
      · exact absurd h3 e
      · exact h.at_ j h3.1 h3.2
def realL (N : Nat) (f : Nat → Int) : List Rt := (List.range N).map fun i => (f i, 200)
theorem realL_len (N : Nat) (f : Nat → Int) : (realL N f).length = N := by simp [realL]
theorem realL_get {i : Nat} (hi : i < N) : (realL N f)[i]? = some (f i, 200) := by simp [realL, hi]
theorem RealC.full {cur : List Value} (h : RealC N 0 N f cur) : cur = layPr.rows (realL N f) := by
  refine List.ext_getElem? fun j => ?_
  by_cases hj : j < N * 2
  · obtain ⟨i, hi, hij⟩ : ∃ i, i < N ∧ (j = i * 2 ∨ j = i * 2 + 1) := ⟨j / 2, by omega, by omega⟩
    have hg := realL_get (f := f) hi
    rcases hij with rfl | rfl
    · rw [(h.at_ i (Nat.zero_le _) hi).1]
      have := layPr.rows_get (realL N f) i _ hg 0 (.int .i64 (f i)) rfl
      exact this.symm
    · rw [(h.at_ i (Nat.zero_le _) hi).2]
      have := layPr.rows_get (realL N f) i _ hg 1 (.int .i64 200) rfl
      exact this.symm
  · have h1 := h.len
    have h2 := layPr.rows_len (realL N f)
    have h3 : layPr.k = 2 := rfl
    rw [h3, realL_len] at h2
    rw [List.getElem?_eq_none (by omega), List.getElem?_eq_none (by omega)]
theorem RealS.rl {h : Hs} (hs : RealS pk 0 N f) (hm : h.mo = (N : Int)) (hp : h.pk = (pk : Int)) : RtsOK h (realL N f) ∧ truthH h (realL N f) = true ∧ ∀ r ∈ realL N f, 8 ≤ r.1 ∧ r.1 ≤ 90 ∧ r.2 = 200 := by
  have hr : ∀ r ∈ realL N f, 8 ≤ r.1 ∧ r.1 ≤ 90 ∧ r.2 = 200 := fun r hr => by
    unfold realL at hr
    obtain ⟨i, hi, rfl⟩ := List.mem_map.1 hr
    have := hs.rg i (Nat.zero_le _) (List.mem_range.1 hi)
    exact ⟨this.1, this.2, rfl⟩
  refine ⟨⟨by rw [realL_len, hm], fun r h1 => ?_⟩, truth_iff.2 fun m h1 h2 => ?_, hr⟩
  · have := hr r h1
    exact ⟨by omega, by omega⟩
  · rw [realL_len] at h2
    have g1 : (realL N f).getD m (0, 0) = (f m, 200) := by rw [List.getD_eq_getElem?_getD, realL_get h2]; rfl
    have g2 : (realL N f).getD (m - 1) (0, 0) = (f (m - 1), 200) := by rw [List.getD_eq_getElem?_getD, realL_get (by omega)]; rfl
    rw [g1, g2]
    obtain ⟨m, rfl⟩ : ∃ m', m = m' + 1 := ⟨m - 1, by omega⟩
    rw [Nat.add_sub_cancel]
    unfold leR
    dsimp only
    exact ⟨fun h3 => by have := hs.up m (Nat.zero_le _) h2 (by omega); omega, fun h3 => by have := hs.dn m (Nat.zero_le _) h2 (by omega); omega⟩
/-- The weighings on the way. -/
structure WsS (N : Nat) (wrong : Nat) (f : Nat → Int) (ws : List Wg) : Prop where
  wm : ∀ w ∈ ws, 0 ≤ w.mo ∧ w.mo < (N : Int)
  ms : ∀ w ∈ ws, (1 ≤ w.sl ∧ w.sl ≤ w.sh ∧ w.sh ≤ 1000) ∧ (1 ≤ w.ml ∧ w.ml ≤ w.mh ∧ w.mh ≤ 1000)
  all : wrong = 0 → ∀ w ∈ ws, holdW w (f w.mo.toNat, 200) = true
theorem WsS.nil {wrong : Nat} : WsS N wrong f [] := ⟨fun w h => (by cases h), fun w h => (by cases h), fun _ w h => (by cases h)⟩
theorem WsS.add {wrong : Nat} {ws : List Wg} {x : Wg} (h : WsS N wrong f ws) (h1 : 0 ≤ x.mo ∧ x.mo < (N : Int)) (h2 : (1 ≤ x.sl ∧ x.sl ≤ x.sh ∧ x.sh ≤ 1000) ∧ (1 ≤ x.ml ∧ x.ml ≤ x.mh ∧ x.mh ≤ 1000)) (h3 : wrong = 0 → holdW x (f x.mo.toNat, 200) = true) : WsS N wrong f (ws ++ [x]) where
  wm := fun w hw => by
    rcases List.mem_append.1 hw with hw | hw
    · exact h.wm w hw
    · rw [List.mem_singleton] at hw; subst hw; exact h1
  ms := fun w hw => by
    rcases List.mem_append.1 hw with hw | hw
    · exact h.ms w hw
    · rw [List.mem_singleton] at hw; subst hw; exact h2
  all := fun e w hw => by
    rcases List.mem_append.1 hw with hw | hw
    · exact h.all e w hw
    · rw [List.mem_singleton] at hw; subst hw; exact h3 e
theorem WsS.made {M W wrong : Nat} {ws : List Wg} (h : WsS N wrong f ws) (hs : RealS pk 0 N f) (hN : 1 ≤ N) (hM : N ≤ M) (hM12 : M ≤ 12) (hp : pk < N) (hW : ws.length ≤ W) (hW14 : W ≤ 14) : MadeH M W wrong ⟨(N : Int), (pk : Int), ws⟩ (realL N f) := by
  obtain ⟨r1, r2, r3⟩ := hs.rl (h := ⟨(N : Int), (pk : Int), ws⟩) rfl rfl
  exact {
    ok := { mo := by show 1 ≤ (N : Int) ∧ (N : Int) ≤ 12; omega, len := Nat.le_trans hW hW14, pk := by show 0 ≤ (pk : Int) ∧ (pk : Int) < (N : Int); omega, wm := h.wm, ms := h.ms }
    mo := by show (N : Int) ≤ M; omega
    ws := hW
    rl := r1
    tr := r2
    rs := r3
    all := fun e w hw => by
      have := h.all e w hw
      have h2 := h.wm w hw
      have e2 : rtAt (realL N f) w.mo = (f w.mo.toNat, 200) := by
        unfold rtAt
        rw [List.getD_eq_getElem?_getD, realL_get (by omega)]; rfl
      rw [e2]; exact this }
end
end Go.Proofs.YtjnobdcbbboeeaaGreat

namespace Go.Proofs.YtjnobdcbbboeeaaGreat
open Go Go.RowKit
set_option linter.unusedVariables false
set_option linter.unusedSimpArgs false

/-- What the law asks of Bounds, Meat and Kept. -/
def MeatOK (L U : Rt) (E F G SL SU ML MU K1 K2 n given : Int) : Prop :=
  (E = 6 ∧ F = 6 ∧ G = 6) ∨
  (E = 0 ∧ F = 8 ∧ (G = 0 ∨ G = 8) ∧ ∀ k, 0 ≤ k → fitsB L U k n = false) ∨
  (E = 0 ∧ F = 0 ∧ (G = 0 ∨ G = 8) ∧ (fitsB L U SL n = true ∧ fitsB L U SU n = true ∧ fitsB L U (SL - 1) n = false ∧ fitsB L U (SU + 1) n = false) ∧ (0 ≤ SL ∧ SL ≤ SU ∧ SU ≤ 1000000) ∧ (G = 0 → SL ≤ ML ∧ SU ≤ MU) ∧ (n = 0 → SL = 0 ∧ SU = 0 ∧ K1 = 0) ∧ K1 = max 0 (SL - given) ∧ K2 = max 0 (K1 - 1))
theorem made_agr {M K : Nat} {h : Hs} {rl : List Rt} (m : MadeH M K 0 h rl) : agrH h = true := agr_of m.ok m.rl m.tr (m.all rfl)
theorem bndE_is {h : Hs} {m : Int} (k : HsOK h) (ha : agrH h = true) (hm : 0 ≤ m ∧ m < h.mo) : bndE h m = 6 ∨ bndE h m = 0 := by
  unfold bndE
  rw [checkH_of k, if_neg (by simp), if_neg (by rw [show moOK h m = true from by unfold moOK; rw [inB_iff]; omega]; simp), if_neg (by rw [ha]; simp)]
  split
  · exact .inl rfl
  · exact .inr rfl
theorem meatE_is {h : Hs} {m s : Int} (k : HsOK h) (hs : 0 ≤ s ∧ s ≤ 1000) : meatE h m s = if bndE h m ≠ 0 then bndE h m else if floorR (bndU h m) s < ceilR (bndL h m) s then 8 else 0 := by
  unfold meatE
  rw [checkH_of k, if_neg (by simp), if_neg (by rw [show inB s 0 1000 = true from by rw [inB_iff]; exact hs]; simp)]
theorem keptE_is {h : Hs} {m s x : Int} (k : HsOK h) (hx : 0 ≤ x ∧ x ≤ 1000) : keptE h m s x = meatE h m s := by
  unfold keptE
  rw [checkH_of k, if_neg (by simp), if_neg (by rw [show inB x 0 1000 = true from by rw [inB_iff]; exact hx]; simp)]
theorem meat_plain {M K : Nat} {h : Hs} {rl : List Rt} (hM : MadeH M K 0 h rl) {m n given : Int} (hm : 0 ≤ m ∧ m < h.mo) (hn : 0 ≤ n ∧ n < 1000) (hg : 0 ≤ given ∧ given < 1000) :
    MeatOK (bndL h m) (bndU h m) (bndE h m) (meatE h m n) (meatE h m (n + 1)) (meatL h m n) (meatU h m n) (meatL h m (n + 1)) (meatU h m (n + 1)) (keptV h m n given) (keptV h m n (given + 1)) n given ∧
      keptE h m n given = meatE h m n ∧ keptE h m n (given + 1) = meatE h m n := by
  have k := hM.ok
  have e1 := meatE_is (m := m) (s := n) k (by omega)
  have e2 := meatE_is (m := m) (s := n + 1) k (by omega)
  have e3 := keptE_is (m := m) (s := n) (x := given) k (by omega)
  have e4 := keptE_is (m := m) (s := n) (x := given + 1) k (by omega)
  refine ⟨?_, e3, e4⟩
  rcases bndE_is k (made_agr hM) hm with hE | hE
  · refine .inl ⟨hE, ?_, ?_⟩
    · rw [e1, hE]; rfl
    · rw [e2, hE]; rfl
  · rw [hE] at e1 e2
    simp only [ne_eq, not_true_eq_false, if_false] at e1 e2
    have hb := bnd_ok k hE
    have hl := hb.le1000 k
    have g2 : meatE h m (n + 1) = 0 ∨ meatE h m (n + 1) = 8 := by rw [e2]; split; exact .inr rfl; exact .inl rfl
    by_cases hf : floorR (bndU h m) n < ceilR (bndL h m) n
    · rw [if_pos hf] at e1
      refine .inr (.inl ⟨hE, e1, g2, fun q hq => ?_⟩)
      rw [Bool.eq_false_iff]
      intro h2
      have := (fitsB_iff hb.pl hb.ph hn.1).1 h2
      omega
    · rw [if_neg hf] at e1
      have v1 : meatL h m n = ceilR (bndL h m) n := by unfold meatL; rw [e1]; rfl
      have v2 : meatU h m n = floorR (bndU h m) n := by unfold meatU; rw [e1]; rfl
      have c0 := ceil_nonneg hb.pl hn.1
      have hfl : floorR (bndU h m) n ≤ 1000000 := by
        have h1 := (floor_iff (k := floorR (bndU h m) n) hb.ph hn.1).2 (Int.le_refl _)
        have h2 : (bndU h m).1 * n ≤ 1000 * 1000 := Int.mul_le_mul hl.2.2.1 (by omega) hn.1 (by decide)
        have h3 : floorR (bndU h m) n * 1 ≤ floorR (bndU h m) n * (bndU h m).2 := Int.mul_le_mul_of_nonneg_left (by have := hb.ph.2; omega) (by omega)
        omega
      refine .inr (.inr ⟨hE, e1, g2, ⟨?_, ?_, ?_, ?_⟩, ?_, fun hg0 => ?_, fun hn0 => ?_, ?_, ?_⟩)
      · rw [fitsB_iff hb.pl hb.ph hn.1, v1]; omega
      · rw [fitsB_iff hb.pl hb.ph hn.1, v2]; omega
      · rw [Bool.eq_false_iff, ne_eq, fitsB_iff hb.pl hb.ph hn.1, v1]; omega
      · rw [Bool.eq_false_iff, ne_eq, fitsB_iff hb.pl hb.ph hn.1, v2]; omega
      · rw [v1, v2]; omega
      · have w1 : meatL h m (n + 1) = ceilR (bndL h m) (n + 1) := by unfold meatL; rw [hg0]; rfl
        have w2 : meatU h m (n + 1) = floorR (bndU h m) (n + 1) := by unfold meatU; rw [hg0]; rfl
        rw [v1, v2, w1, w2]
        exact ⟨ceil_mono hb.pl hn.1, floor_mono hb.ph hn.1⟩
      · subst hn0
        have z1 := ceil_zero hb.pl
        have z2 := floor_zero hb.ph
        refine ⟨by rw [v1, z1], by rw [v2, z2], ?_⟩
        unfold keptV
        rw [e3, e1, if_pos rfl, v1, z1]
        omega
      · unfold keptV; rw [e3, e1, if_pos rfl]
      · unfold keptV; rw [e3, e4, e1, if_pos rfl, if_pos rfl]; omega
end Go.Proofs.YtjnobdcbbboeeaaGreat
