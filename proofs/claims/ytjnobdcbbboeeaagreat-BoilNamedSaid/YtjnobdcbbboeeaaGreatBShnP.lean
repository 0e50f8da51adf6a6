/- Plain: what BoilShown asks. -/
import Derived.Test.YtjnobdcbbboeeaaGreatBFal
import Derived.Test.YtjnobdcbbboeeaaGreatH3
import Derived.Test.YtjnobdcbbboeeaaGreatBGroQ
import Derived.Test.YtjnobdcbbboeeaaGreatBTrs
import Derived.Test.YtjnobdcbbboeeaaGreatH7
import Derived.Test.YtjnobdcbbboeeaaGreatBSho
namespace Go.Proofs.YtjnobdcbbboeeaaGreat
open Go Go.RowKit Go.Shelf
set_option linter.unusedVariables false
set_option linter.unusedSimpArgs false

theorem someW_all {P : Nat → Bool} : ∀ n : Nat, (∀ i, i < n → P i = true) → (someW P n).length = n
  | 0, _ => rfl
  | n + 1, h => by rw [someW_snoc, if_pos (h n (Nat.lt_succ_self n)), List.length_append, someW_all n fun i hi => h i (by omega)]; rfl
theorem someW_none {P : Nat → Bool} : ∀ n : Nat, (∀ i, i < n → P i = false) → someW P n = []
  | 0, _ => rfl
  | n + 1, h => by rw [someW_snoc, if_neg (by rw [h n (Nat.lt_succ_self n)]; decide), someW_none n fun i hi => h i (by omega)]; rfl
theorem agr_trust {h : Hs} (k : HsOK h) (ha : agrH h = true) : (trustH h).length = h.ws.length := by
  refine someW_all _ fun i hi => trust_iff.2 fun l h1 h2 h3 hm => ?_
  have f := (few_is k).2.2.2.2.1
  rw [agr_few k ha] at f
  rw [← f] at h1
  cases l with
  | nil => cases hm
  | cons x t => simp at h1
theorem rtOK_of {r : Rt} (h : (1 ≤ r.1 ∧ r.1 ≤ 1000000) ∧ 1 ≤ r.2 ∧ r.2 ≤ 1000000) : rtOK r = true := by
  unfold rtOK; rw [Bool.and_eq_true, inB_iff, inB_iff]; exact h
theorem rtOK_sm {r : Rt} (h : rtOK r = true) : Rpos r ∧ Rsm r := by
  unfold rtOK at h; rw [Bool.and_eq_true, inB_iff, inB_iff] at h
  unfold Rpos Rsm; omega
theorem false_none {h : Hs} {l : List Rt} (k : HsOK h) (hl : (l.length : Int) = h.mo) (hr : ∀ q ∈ l, rtOK q = true) (ht : truthH h l = true) (hw : ∀ w ∈ h.ws, holdW w (rtAt l w.mo) = true) : ttE h l = 0 ∧ ttV h l = true ∧ falE h l = 0 ∧ falV h l = [] := by
  have e := ratE_of k hl hr
  have f : falE h l = 0 := by unfold falE; rw [if_neg (by simp [e]), if_neg (by simp [ht])]
  refine ⟨e, by unfold ttV; rw [if_pos e, ht], f, ?_⟩
  unfold falV
  rw [if_pos f]
  refine someW_none _ fun i hi => ?_
  unfold falB
  rw [hw _ (by have := wgAt_some hi; exact List.mem_of_getElem? this)]
  rfl
theorem rt_mem {l : List Rt} {m : Int} (hm : 0 ≤ m ∧ m < (l.length : Int)) : rtAt l m ∈ l := getD_mem (by omega)
theorem shown_rt {h : Hs} (k : HsOK h) : ∀ q ∈ shownH h, rtOK q = true := fun q hq => by
  unfold shownH at hq
  obtain ⟨m, -, rfl⟩ := List.mem_map.1 hq
  obtain ⟨-, -, g3, g4⟩ := great_ge (lowsH h (m : Int)) oneR one_pos (low_pos k _)
  refine rtOK_of ?_
  unfold Rpos at g4
  have g5 : Rsm (greatL oneR (lowsH h (m : Int))) := by
    rcases g3 with e | e
    · rw [e]; unfold Rsm oneR; omega
    · exact (lows_small k _).1 _ e
  unfold Rsm at g5
  omega
theorem bnd_sm {h : Hs} {m : Int} (k : HsOK h) : Rsm (bndL h m) ∧ Rsm (bndU h m) := by
  unfold Rsm
  by_cases e : bndE h m = 0
  · have b := bnd_ok k e
    have l := b.le1000 k
    have p1 := b.pl
    have p2 := b.ph
    unfold Rpos at p1 p2
    omega
  · have e1 : bndL h m = (0, 0) := by unfold bndL; rw [if_neg e]
    have e2 : bndU h m = (0, 0) := by unfold bndU; rw [if_neg e]
    rw [e1, e2]
    decide
/-- What the law asks of the ratios of a month. -/
def BetR (lo hi x : Rt) : Prop := lo.1 * x.2 ≤ x.1 * lo.2 ∧ x.1 * hi.2 ≤ hi.1 * x.2
structure ShnOK (h : Hs) (real : List Rt) : Prop where
  shE : shoE h = 0
  shL : ((shoV h).length : Int) = h.mo
  rlL : (real.length : Int) = h.mo
  fewV : fewV h = []
  fewE : fewE h = 0
  truL : (truV h).length = h.ws.length
  claE : claE h = 6
  ttR : ttE h real = 0 ∧ ttV h real = true
  faR : falE h real = 0 ∧ falV h real = []
  ttS : ttE h (shoV h) = 0 ∧ ttV h (shoV h) = true
  sm : (∀ r ∈ real, Rsm r) ∧ ∀ r ∈ shoV h, Rsm r
  hold : ∀ w ∈ h.ws, w.ml * (rtAt (shoV h) w.mo).2 ≤ (rtAt (shoV h) w.mo).1 * w.sh ∧ (rtAt (shoV h) w.mo).1 * w.sl ≤ w.mh * (rtAt (shoV h) w.mo).2
  bnd : ∀ m, 0 ≤ m → m < h.mo → bndE h m = 6 ∨ bndE h m = 0 ∧ BetR (bndL h m) (bndU h m) (rtAt real m) ∧ BetR (bndL h m) (bndU h m) (rtAt (shoV h) m)
theorem hold_is {w : Wg} {r : Rt} (m : (1 ≤ w.sl ∧ w.sl ≤ w.sh ∧ w.sh ≤ 1000) ∧ 1 ≤ w.ml ∧ w.ml ≤ w.mh ∧ w.mh ≤ 1000) (p : Rpos r) (e : holdW w r = true) : w.ml * r.2 ≤ r.1 * w.sh ∧ r.1 * w.sl ≤ w.mh * r.2 := by
  have l1 : LowOK w.ml w.sh (gcdZ w.ml w.sh) w.lo := lowR_ok (by omega) (by omega)
  have l2 : LowOK w.mh w.sl (gcdZ w.mh w.sl) w.hi := lowR_ok (by omega) (by omega)
  have k1 := low_self r p.1 p.2
  obtain ⟨e1, e2⟩ := hold_iff.1 e
  rw [← abv_not, abv_low l1 k1, decide_eq_false_iff_not] at e1
  rw [← abv_not, abv_low k1 l2, decide_eq_false_iff_not] at e2
  exact ⟨by omega, by omega⟩
theorem shn_ok {M K : Nat} {h : Hs} {real : List Rt} (m : MadeH M K 0 h real) : ShnOK h real := by
  have k := m.ok
  have ha := made_agr m
  have hc := checkH_of k
  have hmo := k.mo
  have sE : shoE h = 0 := by unfold shoE; rw [if_neg (by simp [hc]), if_neg (by simp [ha])]
  have sV : shoV h = shownH h := by unfold shoV; rw [if_pos sE]
  have sL : ((shoV h).length : Int) = h.mo := by rw [sV, shown_len]; omega
  obtain ⟨s1, s2, s3⟩ := shown_ok k ha
  have srt := shown_rt k
  have rrt : ∀ q ∈ real, rtOK q = true := fun q hq => rtOK_of (by have := m.rs q hq; omega)
  have rl : (real.length : Int) = h.mo := m.rl.len
  have hR := false_none k rl rrt m.tr (m.all rfl)
  have hS := false_none k (by rw [← sV]; exact sL) srt s2 s3
  refine { shE := sE, shL := sL, rlL := rl, fewV := ?_, fewE := hc, truL := ?_, claE := ?_, ttR := ⟨hR.1, hR.2.1⟩, faR := hR.2.2, ttS := ?_, sm := ⟨fun r hr => (rtOK_sm (rrt r hr)).2, fun r hr => (rtOK_sm (srt r (sV ▸ hr))).2⟩, hold := ?_, bnd := ?_ }
  · unfold Go.Proofs.YtjnobdcbbboeeaaGreat.fewV; rw [if_neg (by simp [hc]), agr_few k ha]
  · unfold truV; rw [if_neg (by simp [hc])]; exact agr_trust k ha
  · unfold Go.Proofs.YtjnobdcbbboeeaaGreat.claE; rw [if_neg (by simp [hc]), agr_cla ha]
  · rw [sV]; exact ⟨hS.1, hS.2.1⟩
  · intro w hw
    rw [sV]
    have wm := k.wm w hw
    exact hold_is (k.ms w hw) (rtOK_sm (srt _ (rt_mem (by rw [← sV]; omega)))).1 (s3 w hw)
  · intro q q0 q1
    rcases bndE_is k ha ⟨q0, q1⟩ with e | e
    · exact .inl e
    · have b := bnd_ok k e
      obtain ⟨t1, t2⟩ := truth_bnd k m.rl m.tr (m.all rfl) ⟨q0, q1⟩ b
      obtain ⟨u1, u2⟩ := truth_bnd k s1 s2 s3 ⟨q0, q1⟩ b
      rw [sV]
      exact .inr ⟨e, ⟨t1, t2⟩, u1, u2⟩
end Go.Proofs.YtjnobdcbbboeeaaGreat
