/- Plain: what the reference of boil computes, in terms of what the program does. No program stands here. -/
import Derived.Test.YtjnobdcbbboeeaaBFal
import Derived.Test.YtjnobdcbbboeeaaH3
namespace Go.Proofs.Ytjnobdcbbboeeaa
open Go Go.RowKit
set_option linter.unusedVariables false
set_option linter.unusedSimpArgs false

/-! ### Months -/
theorem und_ref (h : Hs) (a b : Int) : undH h a b = if a ≤ h.pk ∧ b ≤ h.pk then decide (a ≤ b) else (decide (h.pk ≤ a) && decide (h.pk ≤ b) && decide (b ≤ a)) := by
  rw [Bool.eq_iff_iff, und_iff]
  split
  · rw [decide_eq_true_eq]; omega
  · simp only [Bool.and_eq_true, decide_eq_true_eq]; omega

/-! ### Truths: all pairs of months -/
def truthRow (h : Hs) (l : List Rt) (a : Nat) (n : Nat) : Bool := (List.range n).all fun b => !(undH h (a : Int) (b : Int) && abv (l.getD a (0, 0)) (l.getD b (0, 0)))
def truthR (h : Hs) (l : List Rt) (n : Nat) : Bool := (List.range n).all fun a => truthRow h l a h.mo.toNat
theorem truthRow_next (h : Hs) (l : List Rt) (a n : Nat) : truthRow h l a (n + 1) = (truthRow h l a n && !(undH h (a : Int) (n : Int) && abv (l.getD a (0, 0)) (l.getD n (0, 0)))) := by
  unfold truthRow; rw [List.range_succ, List.all_append]; simp
theorem truthR_next (h : Hs) (l : List Rt) (n : Nat) : truthR h l (n + 1) = (truthR h l n && truthRow h l n h.mo.toNat) := by
  unfold truthR; rw [List.range_succ, List.all_append]; simp
theorem all_false_of {P : Nat → Bool} {n k : Nat} (hk : k < n) (h : P k = false) : (List.range n).all P = false := by
  rw [Bool.eq_false_iff]
  intro e
  rw [List.all_eq_true] at e
  have := e k (List.mem_range.2 hk)
  rw [h] at this; cases this
theorem truthR_is {h : Hs} {l : List Rt} (hr : RtsOK h l) : truthR h l h.mo.toNat = truthH h l := by
  have hl := hr.len
  rw [Bool.eq_iff_iff]
  unfold truthR truthRow
  simp only [List.all_eq_true, List.mem_range, Bool.not_eq_true', Bool.and_eq_false_iff]
  constructor
  · intro ha
    rw [truth_iff]
    intro m h1 h2
    refine ⟨fun hp => ?_, fun hp => ?_⟩
    · rcases ha (m - 1) (by omega) m (by omega) with h3 | h3
      · have u : undH h ((m - 1 : Nat) : Int) (m : Int) = true := und_iff.2 (.inl (by omega))
        rw [h3] at u; cases u
      · exact abv_not.1 h3
    · rcases ha m (by omega) (m - 1) (by omega) with h3 | h3
      · have u : undH h (m : Int) ((m - 1 : Nat) : Int) = true := und_iff.2 (.inr (by omega))
        rw [h3] at u; cases u
      · exact abv_not.1 h3
  · intro ht a ha b hb
    cases hu : undH h (a : Int) (b : Int)
    · exact .inl rfl
    · right
      have := truth_und hr ht (a := (a : Int)) (b := (b : Int)) (by omega) (by omega) hu
      unfold rtAt at this
      rw [Int.toNat_natCast, Int.toNat_natCast] at this
      exact abv_not.2 this

/-! ### The greatest and the least of a list, one by one -/
def gstO : List Rt → Option Rt
  | [] => none
  | r :: l => some (greatL r l)
def lstO : List Rt → Option Rt
  | [] => none
  | r :: l => some (minR r l)
theorem great_app : ∀ (l : List Rt) (r x : Rt), greatL r (l ++ [x]) = if abv x (greatL r l) = true then x else greatL r l
  | [], r, x => rfl
  | q :: l, r, x => by
    rw [List.cons_append]
    unfold greatL
    exact great_app l _ x
theorem min_app : ∀ (l : List Rt) (r x : Rt), minR r (l ++ [x]) = if abv (minR r l) x = true then x else minR r l
  | [], r, x => rfl
  | q :: l, r, x => by
    rw [List.cons_append]
    unfold minR
    exact min_app l _ x
theorem gstO_app (l : List Rt) (x : Rt) : gstO (l ++ [x]) = match gstO l with | none => some x | some r => some (if abv x r = true then x else r) := by
  cases l with
  | nil => rfl
  | cons r l => show some (greatL r (l ++ [x])) = _; rw [great_app]; rfl
theorem lstO_app (l : List Rt) (x : Rt) : lstO (l ++ [x]) = match lstO l with | none => some x | some r => some (if abv r x = true then x else r) := by
  cases l with
  | nil => rfl
  | cons r l => show some (minR r (l ++ [x])) = _; rw [min_app]; rfl
def lowsK (h : Hs) (m : Int) (k : Nat) : List Rt := ((h.ws.take k).filter fun w => undH h w.mo m).map Wg.lo
def upsK (h : Hs) (m : Int) (k : Nat) : List Rt := ((h.ws.take k).filter fun w => undH h m w.mo).map Wg.hi
theorem lowsK_next {h : Hs} {m : Int} {k : Nat} {x : Wg} (hx : h.ws[k]? = some x) : lowsK h m (k + 1) = lowsK h m k ++ if undH h x.mo m = true then [x.lo] else [] := by
  unfold lowsK
  rw [List.take_add_one, hx, List.filter_append, List.map_append]
  by_cases e : undH h x.mo m = true <;> simp [e]
theorem upsK_next {h : Hs} {m : Int} {k : Nat} {x : Wg} (hx : h.ws[k]? = some x) : upsK h m (k + 1) = upsK h m k ++ if undH h m x.mo = true then [x.hi] else [] := by
  unfold upsK
  rw [List.take_add_one, hx, List.filter_append, List.map_append]
  by_cases e : undH h m x.mo = true <;> simp [e]
theorem lowsK_end (h : Hs) (m : Int) : lowsK h m h.ws.length = lowsH h m := by unfold lowsK lowsH; rw [List.take_length]
theorem upsK_end (h : Hs) (m : Int) : upsK h m h.ws.length = upsH h m := by unfold upsK upsH; rw [List.take_length]
theorem gst_hd {l : List Rt} : gstO l = if l.length = 0 then none else some (greatL (hdR l) l.tail) := by cases l <;> simp [gstO, hdR]
theorem lst_hd {l : List Rt} : lstO l = if l.length = 0 then none else some (minR (hdR l) l.tail) := by cases l <;> simp [lstO, hdR]
/-- What the reference's Bounds says of a right house, at a month that there is. -/
theorem bnd_ref {h : Hs} (k : HsOK h) {m : Int} (hm : 0 ≤ m ∧ m < h.mo) :
    (agrH h = false → bndE h m = 7 ∧ bndL h m = (0, 0) ∧ bndU h m = (0, 0)) ∧
    (agrH h = true → (gstO (lowsH h m) = none ∨ lstO (upsH h m) = none) → bndE h m = 6 ∧ bndL h m = (0, 0) ∧ bndU h m = (0, 0)) ∧
    (agrH h = true → ∀ lo hi, gstO (lowsH h m) = some lo → lstO (upsH h m) = some hi → bndE h m = 0 ∧ bndL h m = lo ∧ bndU h m = hi) := by
  have c := checkH_of k
  have hmo : moOK h m = true := by unfold moOK; rw [inB_iff]; omega
  have hE : bndE h m = if agrH h = false then 7 else if (lowsH h m).length = 0 ∨ (upsH h m).length = 0 then 6 else 0 := by
    unfold bndE; rw [if_neg (by simp [c]), if_neg (by rw [hmo]; simp)]
  refine ⟨fun ha => ?_, fun ha hn => ?_, fun ha lo hi hl hu => ?_⟩
  · have e : bndE h m = 7 := by rw [hE, if_pos ha]
    refine ⟨e, ?_, ?_⟩
    · unfold bndL; rw [e]; rfl
    · unfold bndU; rw [e]; rfl
  · have e : bndE h m = 6 := by
      rw [hE, if_neg (by rw [ha]; simp), if_pos]
      rcases hn with hn | hn
      · rw [gst_hd] at hn
        split at hn
        · left; assumption
        · cases hn
      · rw [lst_hd] at hn
        split at hn
        · right; assumption
        · cases hn
    refine ⟨e, ?_, ?_⟩
    · unfold bndL; rw [e]; rfl
    · unfold bndU; rw [e]; rfl
  · rw [gst_hd] at hl
    rw [lst_hd] at hu
    split at hl
    · cases hl
    · rename_i n1
      split at hu
      · cases hu
      · rename_i n2
        have e : bndE h m = 0 := by rw [hE, if_neg (by rw [ha]; simp), if_neg (by omega)]
        refine ⟨e, ?_, ?_⟩
        · unfold bndL; rw [if_pos e]; injection hl
        · unfold bndU; rw [if_pos e]; injection hu

/-! ### Sets -/
/-- All of the weighings that are not gone agree. -/
def agrP (h : Hs) (g : Nat → Bool) (a : Nat) (n : Nat) : Bool := (List.range n).all fun b => !(!g a && !g b && claH h a b)
def agrG (h : Hs) (g : Nat → Bool) (n : Nat) : Bool := (List.range n).all fun a => agrP h g a h.ws.length
theorem agrP_next (h : Hs) (g : Nat → Bool) (a n : Nat) : agrP h g a (n + 1) = (agrP h g a n && !(!g a && !g n && claH h a n)) := by
  unfold agrP; rw [List.range_succ, List.all_append]; simp
theorem agrG_next (h : Hs) (g : Nat → Bool) (n : Nat) : agrG h g (n + 1) = (agrG h g n && agrP h g n h.ws.length) := by
  unfold agrG; rw [List.range_succ, List.all_append]; simp
theorem agrG_none (h : Hs) : agrG h (fun _ => false) h.ws.length = agrH h := by
  unfold agrG agrP agrH; simp
theorem agrG_cov (h : Hs) (l : List Int) : agrG h (fun i => memI (i : Int) l) h.ws.length = covH h l := by
  rw [Bool.eq_iff_iff, cov_iff]
  unfold agrG agrP
  simp only [List.all_eq_true, List.mem_range, Bool.not_eq_true', Bool.and_eq_false_iff, mem_bel, Bool.not_eq_false']
  constructor
  · intro H a b ha hb
    rcases H a ha b hb.1 with (h1 | h1) | h1
    · exact .inl (mem_memI.1 h1)
    · exact .inr (mem_memI.1 h1)
    · rw [hb.2] at h1; cases h1
  · intro H a ha b hb
    cases hc : claH h a b
    · exact .inr rfl
    · left
      rcases H a b ha ⟨hb, hc⟩ with h1 | h1
      · exact .inl (mem_memI.2 h1)
      · exact .inr (mem_memI.2 h1)
theorem mem_some_nat {P : Nat → Bool} {wi i : Nat} (hi : i < wi) : memI (i : Int) (someW P wi) = P i := by
  rw [Bool.eq_iff_iff, mem_memI, mem_someW, Int.toNat_natCast]
  constructor
  · exact fun h => h.2.2
  · exact fun h => ⟨by omega, by omega, h⟩
theorem agrG_bits (h : Hs) (n : Nat) : agrG h (bit n) h.ws.length = covH h (someW (bit n) h.ws.length) := by
  rw [← agrG_cov]
  unfold agrG agrP
  rw [Bool.eq_iff_iff]
  simp only [List.all_eq_true, List.mem_range]
  constructor
  · intro H a ha b hb
    rw [mem_some_nat ha, mem_some_nat hb]; exact H a ha b hb
  · intro H a ha b hb
    have := H a ha b hb
    rw [mem_some_nat ha, mem_some_nat hb] at this; exact this
/-! ### The fewest of all sets, and which weighings are in one of these -/
/-- After n sets: the best one, and the weighings that are in one that is as small. -/
def bstF (h : Hs) (n : Nat) : Option (List Int) := bestTo (covH h) h.ws.length n
def dbtF (h : Hs) (n : Nat) (i : Nat) : Bool := match bstF h n with
  | none => false
  | some b => (List.range n).any fun m => covH h (someW (bit m) h.ws.length) && ((someW (bit m) h.ws.length).length == b.length) && memI (i : Int) (someW (bit m) h.ws.length)
theorem bst_len {h : Hs} {n : Nat} {b : List Int} (hb : bstF h n = some b) : (∀ m, m < n → covH h (someW (bit m) h.ws.length) = true → b.length ≤ (someW (bit m) h.ws.length).length) := fun m hm hc => by
  have := ((bestTo_spec (covH h) h.ws.length n).1 b hb).2.2 m hm hc
  rw [Bool.eq_false_iff] at this
  refine Nat.not_lt.1 fun q => this (fewer_iff.2 (.inl q))
/-- A set that does not count. -/
theorem dbt_skip {h : Hs} {n : Nat} (hn : covH h (someW (bit n) h.ws.length) = false ∨ ∃ b, bstF h n = some b ∧ b.length < (someW (bit n) h.ws.length).length) : bstF h (n + 1) = bstF h n ∧ ∀ i, dbtF h (n + 1) i = dbtF h n i := by
  have hb : bstF h (n + 1) = bstF h n := by
    rcases hn with hn | ⟨b, h1, h2⟩
    · exact best_no rfl hn
    · rw [h1]
      refine best_no2 h1 ?_
      rw [Bool.eq_false_iff]
      intro q
      rcases fewer_iff.1 q with q | ⟨q, -⟩ <;> omega
  refine ⟨hb, fun i => ?_⟩
  unfold dbtF
  rw [hb]
  rcases hs : bstF h n with _ | b
  · rfl
  · show (List.range (n + 1)).any _ = (List.range n).any _
    rw [List.range_succ, List.any_append]
    have : (covH h (someW (bit n) h.ws.length) && ((someW (bit n) h.ws.length).length == b.length) && memI (i : Int) (someW (bit n) h.ws.length)) = false := by
      rcases hn with hn | ⟨b2, h1, h2⟩
      · rw [hn]; rfl
      · rw [hs] at h1
        injection h1 with h1
        subst h1
        rw [show ((someW (bit n) h.ws.length).length == b.length) = false by rw [beq_eq_false_iff_ne]; omega]
        simp
    simp [this]
/-- A set that is smaller than all before it, or the first. -/
theorem dbt_new {h : Hs} {n : Nat} (hc : covH h (someW (bit n) h.ws.length) = true) (hn : bstF h n = none ∨ ∃ b, bstF h n = some b ∧ (someW (bit n) h.ws.length).length < b.length) :
    bstF h (n + 1) = some (someW (bit n) h.ws.length) ∧ ∀ i, dbtF h (n + 1) i = memI (i : Int) (someW (bit n) h.ws.length) := by
  have hb : bstF h (n + 1) = some (someW (bit n) h.ws.length) := by
    rcases hn with hn | ⟨b, h1, h2⟩
    · exact best_new hn hc
    · exact best_new2 h1 (fewer_iff.2 (.inl h2)) hc
  refine ⟨hb, fun i => ?_⟩
  unfold dbtF
  rw [hb]
  show (List.range (n + 1)).any _ = _
  rw [List.range_succ, List.any_append]
  have h0 : ((List.range n).any fun m => covH h (someW (bit m) h.ws.length) && ((someW (bit m) h.ws.length).length == (someW (bit n) h.ws.length).length) && memI (i : Int) (someW (bit m) h.ws.length)) = false := by
    rw [Bool.eq_false_iff]
    intro q
    obtain ⟨m, hm, q⟩ := List.any_eq_true.1 q
    rw [List.mem_range] at hm
    simp only [Bool.and_eq_true, beq_iff_eq] at q
    rcases hn with hn | ⟨b, h1, h2⟩
    · have := (bestTo_spec (covH h) h.ws.length n).2 hn m hm
      rw [q.1.1] at this; cases this
    · have := bst_len h1 m hm q.1.1
      omega
  rw [h0]
  simp [hc]
/-- A set that is as small as the best. -/
theorem dbt_same {h : Hs} {n : Nat} {b : List Int} (hc : covH h (someW (bit n) h.ws.length) = true) (hb : bstF h n = some b) (hl : (someW (bit n) h.ws.length).length = b.length) :
    bstF h (n + 1) = some (if fewerL (someW (bit n) h.ws.length) b = true then someW (bit n) h.ws.length else b) ∧ ∀ i, dbtF h (n + 1) i = (dbtF h n i || memI (i : Int) (someW (bit n) h.ws.length)) := by
  have hb2 : bstF h (n + 1) = some (if fewerL (someW (bit n) h.ws.length) b = true then someW (bit n) h.ws.length else b) := by
    split
    · rename_i q; exact best_new2 hb q hc
    · rename_i q; exact best_no2 hb (by simpa using q)
  refine ⟨hb2, fun i => ?_⟩
  unfold dbtF
  rw [hb2, hb]
  show (List.range (n + 1)).any _ = ((List.range n).any _ || _)
  rw [List.range_succ, List.any_append]
  have hl2 : (if fewerL (someW (bit n) h.ws.length) b = true then someW (bit n) h.ws.length else b).length = b.length := by split <;> simp [hl]
  rw [hl2]
  simp [hc, hl]
theorem bst_end {h : Hs} (k : HsOK h) : bstF h (2 ^ h.ws.length) = some (fewH h) := by
  unfold bstF
  rw [best_is]
  exact (few_is k).2.1
theorem dbt_end {h : Hs} (k : HsOK h) {i : Nat} (hi : i < h.ws.length) : dbtF h (2 ^ h.ws.length) i = !trustB h i := by
  unfold dbtF
  rw [bst_end k]
  show (List.range _).any _ = _
  have hf := few_is k
  rw [Bool.eq_iff_iff, List.any_eq_true, Bool.not_eq_true', ← Bool.not_eq_true, trust_iff]
  constructor
  · rintro ⟨m, hm, q⟩ H
    simp only [Bool.and_eq_true, beq_iff_eq] at q
    exact H _ (q.1.2.trans hf.2.2.2.2.1) (someW_asc _ _) q.1.1 (mem_memI.1 q.2)
  · intro H
    refine Classical.byContradiction fun Q => H fun l h1 h2 h3 h4 => Q ?_
    obtain ⟨m, hm, he⟩ := asc_set h2
    refine ⟨m, List.mem_range.2 hm, ?_⟩
    rw [he]
    simp only [Bool.and_eq_true, beq_iff_eq]
    exact ⟨⟨h3, h1.trans hf.2.2.2.2.1.symm⟩, mem_memI.2 h4⟩
end Go.Proofs.Ytjnobdcbbboeeaa
