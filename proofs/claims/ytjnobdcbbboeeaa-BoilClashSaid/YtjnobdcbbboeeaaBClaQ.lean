/- Plain: what BoilClash asks. No program stands here. -/
import Derived.Test.YtjnobdcbbboeeaaBRfP
import Derived.Test.YtjnobdcbbboeeaaBShnP
namespace Go.Proofs.Ytjnobdcbbboeeaa
open Go Go.RowKit Go.Shelf
set_option linter.unusedVariables false
set_option linter.unusedSimpArgs false

/-! ### The first pair that clashes, looked for row by row -/
def rowQ (h : Hs) (a k : Nat) : List (Int × Int) := ((List.range k).filter (claH h a)).map fun (b : Nat) => ((a : Int), (b : Int))
def topQ (h : Hs) (a : Nat) : List (Int × Int) := (List.range a).flatMap fun x => rowQ h x h.ws.length
theorem rowQ_next (h : Hs) (a k : Nat) : rowQ h a (k + 1) = rowQ h a k ++ if claH h a k = true then [((a : Int), (k : Int))] else [] := by
  unfold rowQ
  rw [List.range_succ, List.filter_append, List.map_append]
  by_cases e : claH h a k = true <;> simp [e]
theorem topQ_next (h : Hs) (a : Nat) : topQ h (a + 1) = topQ h a ++ rowQ h a h.ws.length := by
  unfold topQ
  rw [List.range_succ, List.flatMap_append]
  simp
theorem topQ_end (h : Hs) : topQ h h.ws.length = claP h := rfl
/-- What is kept: the first of a list, or nought and 6. -/
def fstQ (l : List (Int × Int)) : Int × Int := match l with | [] => (0, 0) | p :: _ => p
def errQ (l : List (Int × Int)) : Int := match l with | [] => 6 | _ :: _ => 0
theorem fstQ_app {l m : List (Int × Int)} (h : errQ l = 0) : fstQ (l ++ m) = fstQ l ∧ errQ (l ++ m) = 0 := by
  cases l with
  | nil => exact absurd h (by decide)
  | cons p l => exact ⟨rfl, rfl⟩
theorem errQ_nil {l : List (Int × Int)} (h : errQ l ≠ 0) : l = [] := by
  cases l with
  | nil => rfl
  | cons p l => exact absurd rfl h
theorem errQ_two (l : List (Int × Int)) : errQ l = 6 ∨ errQ l = 0 := by cases l <;> simp [errQ]
theorem fstQ_end {h : Hs} (k : HsOK h) : claV h = fstQ (claP h) ∧ claE h = errQ (claP h) := by
  unfold claV claE fstQ errQ
  rw [if_neg (by simp [checkH_of k]), if_neg (by simp [checkH_of k])]
  exact ⟨rfl, rfl⟩
theorem agr_cla_iff {h : Hs} : agrH h = true ↔ claP h = [] := by
  constructor
  · exact agr_cla
  · intro e
    rw [agr_iff]
    intro a b ha hb
    rw [Bool.eq_false_iff]
    intro hc
    have : ((a : Int), (b : Int)) ∈ claP h := by
      unfold claP
      exact List.mem_flatMap.2 ⟨a, List.mem_range.2 ha, List.mem_map.2 ⟨b, mem_bel.2 ⟨hb, hc⟩, rfl⟩⟩
    rw [e] at this; cases this
/-! ### Ratios in lowest terms -/
theorem gcd_low {n d : Int} (hn : 0 < n) (hd : 0 < d) : gcdZ (lowR n d).1 (lowR n d).2 = 1 := by
  have hl := lowR_ok hn hd
  have hg := gcdZ_ok hn hd
  have hc := gcdZ_ok hl.n0 hl.d0
  obtain ⟨x, hx⟩ := hc.2.1
  obtain ⟨y, hy⟩ := hc.2.2.1
  have hgp : 0 < gcdZ n d := hg.1
  obtain ⟨c, hcc⟩ : ∃ c, gcdZ (lowR n d).1 (lowR n d).2 = c := ⟨_, rfl⟩
  rw [hcc] at hx hy ⊢
  have hc0 : 0 < c := by rw [← hcc]; exact hc.1
  have hdv : gcdZ n d * c ∣ gcdZ n d := hg.2.2.2 _ ⟨x, by rw [Int.mul_assoc, ← hx]; exact hl.nn⟩ ⟨y, by rw [Int.mul_assoc, ← hy]; exact hl.dd⟩
  have hle := Int.le_of_dvd hgp hdv
  refine Int.le_antisymm ?_ (by omega)
  refine Int.not_lt.1 fun h1 => ?_
  have := Int.mul_lt_mul_of_pos_left h1 hgp
  rw [Int.mul_one] at this
  omega
def isLow (r : Rt) : Prop := lowR r.1 r.2 = r
theorem low_low {n d : Int} (hn : 0 < n) (hd : 0 < d) : isLow (lowR n d) := by
  unfold isLow
  have e := gcd_low hn hd
  show ((lowR n d).1.tdiv (gcdZ (lowR n d).1 (lowR n d).2), (lowR n d).2.tdiv (gcdZ (lowR n d).1 (lowR n d).2)) = _
  rw [e, Int.tdiv_one, Int.tdiv_one]
theorem one_low : isLow oneR := by unfold isLow; decide
theorem great_low : ∀ (l : List Rt) (r : Rt), isLow r → (∀ q ∈ l, isLow q) → isLow (greatL r l)
  | [], r, h, _ => h
  | q :: l, r, h, hl => by
    unfold greatL
    refine great_low l _ ?_ fun q2 h2 => hl q2 (List.mem_cons_of_mem _ h2)
    split
    · exact hl q (List.mem_cons_self ..)
    · exact h
theorem shown_low {h : Hs} (k : HsOK h) : ∀ r ∈ shownH h, isLow r := fun r hr => by
  unfold shownH at hr
  obtain ⟨m, -, rfl⟩ := List.mem_map.1 hr
  refine great_low _ _ one_low fun q hq => ?_
  obtain ⟨w, hw, -, rfl⟩ := low_mem.1 hq
  have m1 := k.ms w hw
  exact low_low (by omega) (by omega)
structure ClaOK (h : Hs) : Prop where
  sh : claE h = 0 → shoE h = 7 ∧ shoV h = []
  ok : claE h ≠ 0 → claE h = 6 ∧ shoE h = 0 ∧ shoV h = shownH h ∧ ratE h (shownH h) = 0 ∧ truthH h (shownH h) = true ∧ (∀ w ∈ h.ws, holdW w (rtAt (shownH h) w.mo) = true) ∧ (∀ r ∈ shownH h, isLow r ∧ Rpos r ∧ r.1 ≤ 1000000 ∧ r.2 ≤ 1000000) ∧ (shownH h).length = h.mo.toNat
theorem cla_ok {h : Hs} (k : HsOK h) : ClaOK h := by
  have c := checkH_of k
  have fe := fstQ_end k
  refine ⟨fun e => ?_, fun e => ?_⟩
  · have hn : agrH h = false := by
      rw [Bool.eq_false_iff]
      intro ha
      rw [fe.2, agr_cla_iff.1 ha] at e
      cases e
    have e7 : shoE h = 7 := by unfold shoE; rw [if_neg (by simp [c]), if_pos hn]
    exact ⟨e7, by unfold shoV; rw [e7]; rfl⟩
  · rw [fe.2] at e
    have hnil := errQ_nil e
    have ha := agr_cla_iff.2 hnil
    have e0 : shoE h = 0 := by unfold shoE; rw [if_neg (by simp [c]), if_neg (by rw [ha]; simp)]
    obtain ⟨s1, s2, s3⟩ := shown_ok k ha
    refine ⟨by rw [fe.2, hnil]; rfl, e0, by unfold shoV; rw [if_pos e0], ratE_of k s1.len (shown_rt k), s2, s3, fun r hr => ?_, shown_len⟩
    have q := rtOK_sm (shown_rt k r hr)
    have q2 := q.2
    unfold Rsm at q2
    exact ⟨shown_low k r hr, q.1, q2.1.2, q2.2.2⟩
end Go.Proofs.Ytjnobdcbbboeeaa
