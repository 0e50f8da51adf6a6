/- The walks of the reference's small functions of layer 8. Printed by my gen_brf1.py. -/
import Derived.Test.YtjnobdcbbboeeaaBRfP
import Derived.Test.YtjnobdcbbboeeaaH4
import Derived.Test.YtjnobdcbbboeeaaBBow
import Derived.BigQuiet
import Derived.Deep.QuietTactic
import Derived.Test.YtjnobdcbbboeeaaH2
namespace Go.Proofs.Ytjnobdcbbboeeaa
open Go Go.RowKit Go.Shelf
set_option linter.unusedVariables false
set_option linter.unusedSimpArgs false

theorem off_any (n lo hi : Int) (w : World) : Calls Try.prog 91 #[.int .i64 n, .int .i64 lo, .int .i64 hi] w fun e w' => e = .returned (.bool (!inB n lo hi)) ∧ w = w' := by
  by_cases h1 : n < lo
  · have H := hid (show (!inB n lo hi) = true by simp only [inB, Bool.not_eq_true', Bool.and_eq_false_iff, decide_eq_false_iff_not]; omega)
    go_enter Try.func91, Try.ntmps91
    go_wp2
    go_ret
    exact ⟨ret_of (bool_of H.out.symm), rfl⟩
  · by_cases h2 : n > hi
    · have H := hid (show (!inB n lo hi) = true by simp only [inB, Bool.not_eq_true', Bool.and_eq_false_iff, decide_eq_false_iff_not]; omega)
      go_enter Try.func91, Try.ntmps91
      go_wp2
      go_ret
      exact ⟨ret_of (bool_of H.out.symm), rfl⟩
    · have H := hid (show (!inB n lo hi) = false by simp only [inB, Bool.not_eq_false', Bool.and_eq_true, decide_eq_true_eq]; omega)
      go_enter Try.func91, Try.ntmps91
      go_wp2
      go_ret
      exact ⟨ret_of (bool_of H.out.symm), rfl⟩
theorem less_any (a b : Rt) (w : World) (ha : Rsm a) (hb : Rsm b) :
    Calls Try.prog 101 #[rval a, rval b] w fun e w' => e = .returned (.bool (abv b a)) ∧ Ext w w' := by
  have p1 := mul_small ha.1 hb.2
  have p2 := mul_small hb.1 ha.2
  have H1 : IntKind.i64.wrap (a.1 * b.2) = a.1 * b.2 := IntWalk.i64_in _ ⟨by omega, by omega⟩
  have H2 : IntKind.i64.wrap (b.1 * a.2) = b.1 * a.2 := IntWalk.i64_in _ ⟨by omega, by omega⟩
  clear p1 p2
  unfold rval
  go_enter Try.func101, Try.ntmps101
  go_wp2
  go_ret
  exact ⟨rfl, Ext.alloc (Ext.alloc (Ext.refl w) _) _⟩
theorem refunder_any (v : Value) (h : Hs) (a b : Int) (w : World) (hr : HsR w v h) :
    Calls Try.prog 61 #[v, .int .i64 a, .int .i64 b] w fun e w' => e = .returned (.bool (undH h a b)) ∧ Ext w w' := by
  obtain ⟨A, c, rfl, -⟩ := hr
  unfold hval
  obtain ⟨P, hP⟩ : ∃ P, h.pk = P := ⟨_, rfl⟩
  have HU : Hid (undH h a b = if a ≤ P ∧ b ≤ P then decide (a ≤ b) else (decide (P ≤ a) && decide (P ≤ b) && decide (b ≤ a))) := by unfold Hid; rw [und_ref, hP]
  rw [hP]
  clear hP
  by_cases h1 : a ≤ P
  · by_cases h2 : b ≤ P
    · by_cases h3 : a ≤ b
      · have H := hid (show undH h a b = true by rw [HU.out]; rw [if_pos ⟨h1, h2⟩]; simp [h3])
        go_enter Try.func61, Try.ntmps61
        go_wp2
        go_ret
        exact ⟨ret_of (bool_of H.out.symm), Ext.alloc (Ext.refl w) _⟩
      · have H := hid (show undH h a b = false by rw [HU.out]; rw [if_pos ⟨h1, h2⟩]; simp [h3])
        go_enter Try.func61, Try.ntmps61
        go_wp2
        go_ret
        exact ⟨ret_of (bool_of H.out.symm), Ext.alloc (Ext.refl w) _⟩
    · by_cases h3 : a ≥ P
      · obtain rfl : a = P := by omega
        have h4 : b ≥ a := by omega
        have h5 : ¬ a ≥ b := by omega
        clear h1 h3
        have H := hid (show undH h a b = false by rw [HU.out]; rw [if_neg (by omega)]; simp only [Bool.and_eq_true, Bool.and_eq_false_iff, decide_eq_true_eq, decide_eq_false_iff_not]; omega)
        go_enter Try.func61, Try.ntmps61
        go_wp2
        go_ret
        exact ⟨ret_of (bool_of H.out.symm), Ext.alloc (Ext.refl w) _⟩
      · have H := hid (show undH h a b = false by rw [HU.out]; rw [if_neg (by omega)]; simp only [Bool.and_eq_true, Bool.and_eq_false_iff, decide_eq_true_eq, decide_eq_false_iff_not]; omega)
        go_enter Try.func61, Try.ntmps61
        go_wp2
        go_ret
        exact ⟨ret_of (bool_of H.out.symm), Ext.alloc (Ext.refl w) _⟩
  · have h3 : a ≥ P := by omega
    by_cases h4 : b ≥ P
    · by_cases h5 : a ≥ b
      · have H := hid (show undH h a b = true by rw [HU.out]; rw [if_neg (by omega)]; simp only [Bool.and_eq_true, Bool.and_eq_false_iff, decide_eq_true_eq, decide_eq_false_iff_not]; omega)
        go_enter Try.func61, Try.ntmps61
        go_wp2
        go_ret
        exact ⟨ret_of (bool_of H.out.symm), Ext.alloc (Ext.refl w) _⟩
      · have H := hid (show undH h a b = false by rw [HU.out]; rw [if_neg (by omega)]; simp only [Bool.and_eq_true, Bool.and_eq_false_iff, decide_eq_true_eq, decide_eq_false_iff_not]; omega)
        go_enter Try.func61, Try.ntmps61
        go_wp2
        go_ret
        exact ⟨ret_of (bool_of H.out.symm), Ext.alloc (Ext.refl w) _⟩
    · have H := hid (show undH h a b = false by rw [HU.out]; rw [if_neg (by omega)]; simp only [Bool.and_eq_true, Bool.and_eq_false_iff, decide_eq_true_eq, decide_eq_false_iff_not]; omega)
      go_enter Try.func61, Try.ntmps61
      go_wp2
      go_ret
      exact ⟨ret_of (bool_of H.out.symm), Ext.alloc (Ext.refl w) _⟩
theorem lowT_step {k : Nat} (n d : Int) (hk : 2 ≤ k) : lowT k n d = if n % (k : Int) = 0 ∧ d % (k : Int) = 0 then lowT (k - 1) (n / (k : Int)) (d / (k : Int)) else lowT (k - 1) n d := by
  obtain ⟨j, rfl⟩ : ∃ j, k = j + 1 := ⟨k - 1, by omega⟩
  rw [lowT]
  simp only [Nat.add_sub_cancel]
  by_cases e : n % ((j + 1 : Nat) : Int) = 0 ∧ d % ((j + 1 : Nat) : Int) = 0
  · rw [if_pos ⟨hk, e⟩, if_pos e]
  · rw [if_neg (fun q => e q.2), if_neg e]
theorem lowT_end {k : Nat} (n d : Int) (hk : k < 2) : lowT k n d = (n, d) := by
  match k, hk with
  | 0, _ => rfl
  | 1, _ => rw [lowT, if_neg (by omega)]; rfl
theorem gcd_min {n d : Int} (hn : 0 < n) (hd : 0 < d) : gcdZ n d ≤ ((min n d).toNat : Int) := by
  have g := gcdZ_ok hn hd
  have h1 := Int.le_of_dvd hn g.2.1
  have h2 := Int.le_of_dvd hd g.2.2.1
  omega
set_option maxRecDepth 100000 in
set_option maxHeartbeats 1000000 in
theorem reflow_any (n d : Int) (w : World) (hn : 0 < n ∧ n ≤ 1000000) (hd : 0 < d ∧ d ≤ 1000000) :
    Calls Try.prog 49 #[.int .i64 n, .int .i64 d] w fun e w' => e = .returned (rval (lowR n d)) ∧ Ext w w' := by
  have HMIN := hid (gcd_min hn.1 hd.1)
  have HX0 : Hid (∀ o, Ext w (w.alloc o)) := fun o => Ext.alloc (Ext.refl w) o
  go_enter Try.func49, Try.ntmps49
  obtain ⟨w1, hw1⟩ : ∃ w1, w.alloc (.cells #[.int .i64 0, .int .i64 0] 43) = w1 := ⟨_, rfl⟩
  have hx1 : Ext w w1 := by rw [← hw1]; exact Ext.alloc (Ext.refl w) _
  have hb1 : w1.heap[w.heap.size]? = some (.cells #[.int .i64 0, .int .i64 0] 43 (0, 0)) := by rw [← hw1]; exact heap_alloc_new w _
  have HW1 := hid hw1
  clear hw1
  obtain ⟨K0, hK0⟩ : ∃ K : Nat, min n d = K := ⟨(min n d).toNat, by omega⟩
  have hk1 : K0 ≤ 1000000 := by omega
  have hm1 : (if n < d then n else d) = (K0 : Int) := by rw [← hK0]; split <;> omega
  have hm2 : (if d < n then d else n) = (K0 : Int) := by rw [← hK0]; split <;> omega
  have hm3 : (if n ≤ d then n else d) = (K0 : Int) := by rw [← hK0]; split <;> omega
  have hm4 : (if d ≤ n then d else n) = (K0 : Int) := by rw [← hK0]; split <;> omega
  have HLT : Hid (lowT K0 n d = lowR n d) := lowT_is K0 n d hn.1 hd.1 (by have := HMIN.out; omega)
  clear HMIN
  go_upto_region 1 with fail
  rw [HW1.out]
  clear HW1
  go_wp2
  clear hK0 hm1 hm2 hm3 hm4
  go_loopw [0, 1, 5] (fun s0 s1 s5 wr => ∃ (a b : Int) (k : Nat), s0 = .int .i64 a ∧ s1 = .int .i64 b ∧ s5 = .int .i64 (k : Int) ∧ (0 < a ∧ a ≤ 1000000) ∧ (0 < b ∧ b ≤ 1000000) ∧ k ≤ 1000000 ∧ Hid (lowT k a b = lowR n d) ∧ Ext w1 wr) (fun _ _ s _ => (intOf s).toNat)
  case atStart => exact ⟨n, d, K0, rfl, rfl, rfl, hn, hd, hk1, HLT, Ext.refl _⟩
  case round =>
    obtain ⟨a, b, k, rfl, rfl, rfl, ha, hb, hk, HL, hx⟩ := hrel
    by_cases h2 : 2 ≤ k
    · have h2' : (k : Int) > 1 := by omega
      have hk0 : ¬ (k : Int) = 0 := by omega
      obtain ⟨kk, hkk⟩ : ∃ kk : Int, (k : Int) = kk := ⟨_, rfl⟩
      have e1 : a.tmod kk = a % kk := Int.tmod_eq_emod_of_nonneg (by omega)
      have e2 : b.tmod kk = b % kk := Int.tmod_eq_emod_of_nonneg (by omega)
      have g1 := Int.emod_nonneg a (show kk ≠ 0 by omega)
      have g2 := Int.emod_lt_of_pos a (show 0 < kk by omega)
      have g3 := Int.emod_nonneg b (show kk ≠ 0 by omega)
      have g4 := Int.emod_lt_of_pos b (show 0 < kk by omega)
      have WA : IntKind.i64.wrap (a.tmod kk) = a % kk := by rw [e1]; exact IntWalk.i64_in _ ⟨by omega, by omega⟩
      have WB : IntKind.i64.wrap (b.tmod kk) = b % kk := by rw [e2]; exact IntWalk.i64_in _ ⟨by omega, by omega⟩
      have WK : IntKind.i64.wrap (kk - 1) = kk - 1 := IntWalk.i64_in _ ⟨by omega, by omega⟩
      have HST := hid (lowT_step (k := k) a b h2)
      have hkp : kk - 1 = ((k - 1 : Nat) : Int) := by omega
      rw [hkk] at HST
      rw [hkk] at h2' hk0
      rw [hkk]
      have HKP := hid hkp
      have HKK := hid hkk
      clear e1 e2 g2 g4 hkp hkk
      by_cases q1 : a % kk = 0
      · have q1b : ((a % kk) == 0) = true := by simp [q1]
        by_cases q2 : b % kk = 0
        · have q2b : ((b % kk) == 0) = true := by simp [q2]
          have d1 : 0 < a / kk ∧ a / kk ≤ a := ⟨by
            have := Int.mul_ediv_add_emod a kk
            rw [q1, Int.add_zero] at this
            refine Int.not_le.1 fun hn => ?_
            have h3 := Int.mul_nonpos_of_nonneg_of_nonpos (show 0 ≤ kk by omega) hn
            omega, Int.ediv_le_self _ (by omega)⟩
          have d2 : 0 < b / kk ∧ b / kk ≤ b := ⟨by
            have := Int.mul_ediv_add_emod b kk
            rw [q2, Int.add_zero] at this
            refine Int.not_le.1 fun hn => ?_
            have h3 := Int.mul_nonpos_of_nonneg_of_nonpos (show 0 ≤ kk by omega) hn
            omega, Int.ediv_le_self _ (by omega)⟩
          have WQ1 : IntKind.i64.wrap (a.tdiv kk) = a / kk := by rw [Int.tdiv_eq_ediv_of_nonneg (by omega)]; exact IntWalk.i64_in _ ⟨by omega, by omega⟩
          have WQ2 : IntKind.i64.wrap (b.tdiv kk) = b / kk := by rw [Int.tdiv_eq_ediv_of_nonneg (by omega)]; exact IntWalk.i64_in _ ⟨by omega, by omega⟩
          have HL2 : Hid (lowT (k - 1) (a / kk) (b / kk) = lowR n d) := by unfold Hid; rw [← HL.out, HST.out, if_pos ⟨q1, q2⟩]
          clear HST HL q1 q2
          go_wp2
          go_quiet (fail)
          go_wp2
          go_roundw
          case rel => exact ⟨a / kk, b / kk, k - 1, rfl, rfl, by rw [← HKP.out], ⟨d1.1, by omega⟩, ⟨d2.1, by omega⟩, by omega, HL2, hx.drewN _⟩
          case measure => simp [intOf]; omega
        · have q2b : ((b % kk) == 0) = false := by simp [q2]
          have HL2 : Hid (lowT (k - 1) a b = lowR n d) := by unfold Hid; rw [← HL.out, HST.out, if_neg (fun q => q2 q.2)]
          clear HST HL q1 q2
          go_wp2
          go_roundw
          case rel => exact ⟨a, b, k - 1, rfl, rfl, by rw [← HKP.out], ha, hb, by omega, HL2, hx⟩
          case measure => simp [intOf]; omega
      · have q1b : ((a % kk) == 0) = false := by simp [q1]
        have HL2 : Hid (lowT (k - 1) a b = lowR n d) := by unfold Hid; rw [← HL.out, HST.out, if_neg (fun q => q1 q.1)]
        clear HST HL q1
        go_wp2
        go_roundw
        case rel => exact ⟨a, b, k - 1, rfl, rfl, by rw [← HKP.out], ha, hb, by omega, HL2, hx⟩
        case measure => simp [intOf]; omega
    · have h2' : ¬ (k : Int) > 1 := by omega
      have HE : Hid (lowR n d = (a, b)) := by unfold Hid; rw [← HL.out, lowT_end a b (by omega)]
      have hb2 := (Below.block hx w.heap.size (Array.getElem?_eq_some_iff.1 hb1).1).trans hb1
      obtain ⟨c0, c1, hfr⟩ := rat_cells hb2
      have HXW := hid (hx1.trans hx)
      have HB2 := hid hb2
      clear hx hb2 hb1 hx1 hn hd ha hb HL
      go_wp2
      have hx9 := Ext.setCell (Ext.setCell HXW.out (p := ⟨w.heap.size, 0, none⟩) (Nat.le_refl _) (.int .i64 a)) (p := ⟨w.heap.size, 1, none⟩) (Nat.le_refl _) (.int .i64 b)
      have hb9 := rat_put HB2.out (.int .i64 a) (.int .i64 b)
      obtain ⟨W9, hW9⟩ : ∃ W9, ((wr.setCell ⟨w.heap.size, 0, none⟩ (.int .i64 a)).setCell ⟨w.heap.size, 1, none⟩ (.int .i64 b)) = W9 := ⟨_, rfl⟩
      rw [hW9] at hx9 hb9 ⊢
      obtain ⟨k0, k1, -⟩ := rat_cells hb9
      refine bodyPost_ret (v := rval (lowR n d)) ?_ rfl ⟨rfl, hx9⟩
      rw [HE.out]
      simp [results, Try.results49, go_sem, rval, k0, k1]
/-- Least and Greatest, of a weighing. -/
def WgM (x : Wg) : Prop := (1 ≤ x.sl ∧ x.sl ≤ 1000) ∧ (1 ≤ x.sh ∧ x.sh ≤ 1000) ∧ (1 ≤ x.ml ∧ x.ml ≤ 1000) ∧ (1 ≤ x.mh ∧ x.mh ≤ 1000)
theorem wgM_of {h : Hs} (k : HsOK h) {x : Wg} (hx : x ∈ h.ws) : WgM x := by
  have := k.ms x hx
  unfold WgM; omega
set_option maxRecDepth 100000 in
theorem refleast_any (x : Wg) (w : World) (hm : WgM x) :
    Calls Try.prog 59 #[x.val] w fun e w' => e = .returned (rval x.lo) ∧ Ext w w' := by
  obtain ⟨m1, m2, m3, m4⟩ := hm
  obtain ⟨R, hR⟩ : ∃ R, x.lo = R := ⟨_, rfl⟩
  have hR2 : lowR x.ml x.sh = R := hR
  rw [hR]
  obtain ⟨w1, hw1⟩ : ∃ w1, w.alloc (.cells #[.int .i64 x.mo, .int .i64 x.sl, .int .i64 x.sh, .int .i64 x.ml, .int .i64 x.mh] 92) = w1 := ⟨_, rfl⟩
  obtain ⟨w2, hw2⟩ : ∃ w2, w1.alloc (.cells #[.int .i64 0, .int .i64 0] 43) = w2 := ⟨_, rfl⟩
  have hx1 : Ext w w1 := by rw [← hw1]; exact Ext.alloc (Ext.refl w) _
  have hx2' : Ext w1 w2 := by rw [← hw2]; exact Ext.alloc (Ext.refl w1) _
  have hx2 := hx1.trans hx2'
  have s1 : w1.heap.size = w.heap.size + 1 := by rw [← hw1]; simp
  have b1 : w2.heap[w.heap.size]? = some (.cells #[.int .i64 x.mo, .int .i64 x.sl, .int .i64 x.sh, .int .i64 x.ml, .int .i64 x.mh] 92 (0, 0)) := (Below.block hx2' w.heap.size (by omega)).trans (by rw [← hw1]; exact heap_alloc_new w _)
  have b2 : w2.heap[w.heap.size + 1]? = some (.cells #[.int .i64 0, .int .i64 0] 43 (0, 0)) := by rw [← hw2, ← s1]; exact heap_alloc_new w1 _
  have hc := fun i u hu => rblk_cells (xs := [.int .i64 x.mo, .int .i64 x.sl, .int .i64 x.sh, .int .i64 x.ml, .int .i64 x.mh]) b1 i u hu
  have c1 := hc 1 _ rfl
  have c2 := hc 2 _ rfl
  have c3 := hc 3 _ rfl
  have c4 := hc 4 _ rfl
  have K := reflow_any x.ml x.sh w2 (by omega) (by omega)
  rw [hR2] at K
  have K := hid K
  have HW1 := hid hw1
  have HW2 := hid hw2
  have HB2 := hid b2
  have HS1 := hid s1
  clear hw1 hw2 b1 b2 hx1 hx2' s1 hR hR2 hc
  unfold Wg.val
  go_enter Try.func59, Try.ntmps59
  go_upto_region 1 with fail
  rw [HW1.out, HW2.out]
  try rw [HS1.out]
  clear HW1 HW2
  go_wp2_with fail
  refine K.out.mono ?_
  clear K c1 c2 c3 c4
  rintro e w3 ⟨rfl, h3⟩
  have hb3 := (Below.block h3 (w.heap.size + 1) (Array.getElem?_eq_some_iff.1 HB2.out).1).trans HB2.out
  obtain ⟨c0, c1, hf⟩ := rat_cells hb3
  have hx3 := hx2.trans h3
  have b9 := rat_put hb3 (.int .i64 R.1) (.int .i64 R.2)
  have hx9 := Ext.setCell (Ext.setCell hx3 (p := ⟨w.heap.size + 1, 0, none⟩) (Nat.le_succ _) (.int .i64 R.1)) (p := ⟨w.heap.size + 1, 1, none⟩) (Nat.le_succ _) (.int .i64 R.2)
  obtain ⟨w9, hw9⟩ : ∃ w9, (w3.setCell ⟨w.heap.size + 1, 0, none⟩ (.int .i64 R.1)).setCell ⟨w.heap.size + 1, 1, none⟩ (.int .i64 R.2) = w9 := ⟨_, rfl⟩
  rw [hw9] at b9 hx9
  obtain ⟨k0, k1, -⟩ := rat_cells b9
  have HW9 := hid hw9
  clear hw9 b9 hb3 HB2
  unfold rval
  go_wp2
  try rw [HW9.out]
  refine bodyPost_ret (v := rval R) ?_ rfl ⟨rfl, hx9⟩
  simp [results, Try.results59, go_sem, rval, k0, k1]
set_option maxRecDepth 100000 in
theorem refmost_any (x : Wg) (w : World) (hm : WgM x) :
    Calls Try.prog 60 #[x.val] w fun e w' => e = .returned (rval x.hi) ∧ Ext w w' := by
  obtain ⟨m1, m2, m3, m4⟩ := hm
  obtain ⟨R, hR⟩ : ∃ R, x.hi = R := ⟨_, rfl⟩
  have hR2 : lowR x.mh x.sl = R := hR
  rw [hR]
  obtain ⟨w1, hw1⟩ : ∃ w1, w.alloc (.cells #[.int .i64 x.mo, .int .i64 x.sl, .int .i64 x.sh, .int .i64 x.ml, .int .i64 x.mh] 92) = w1 := ⟨_, rfl⟩
  obtain ⟨w2, hw2⟩ : ∃ w2, w1.alloc (.cells #[.int .i64 0, .int .i64 0] 43) = w2 := ⟨_, rfl⟩
  have hx1 : Ext w w1 := by rw [← hw1]; exact Ext.alloc (Ext.refl w) _
  have hx2' : Ext w1 w2 := by rw [← hw2]; exact Ext.alloc (Ext.refl w1) _
  have hx2 := hx1.trans hx2'
  have s1 : w1.heap.size = w.heap.size + 1 := by rw [← hw1]; simp
  have b1 : w2.heap[w.heap.size]? = some (.cells #[.int .i64 x.mo, .int .i64 x.sl, .int .i64 x.sh, .int .i64 x.ml, .int .i64 x.mh] 92 (0, 0)) := (Below.block hx2' w.heap.size (by omega)).trans (by rw [← hw1]; exact heap_alloc_new w _)
  have b2 : w2.heap[w.heap.size + 1]? = some (.cells #[.int .i64 0, .int .i64 0] 43 (0, 0)) := by rw [← hw2, ← s1]; exact heap_alloc_new w1 _
  have hc := fun i u hu => rblk_cells (xs := [.int .i64 x.mo, .int .i64 x.sl, .int .i64 x.sh, .int .i64 x.ml, .int .i64 x.mh]) b1 i u hu
  have c1 := hc 1 _ rfl
  have c2 := hc 2 _ rfl
  have c3 := hc 3 _ rfl
  have c4 := hc 4 _ rfl
  have K := reflow_any x.mh x.sl w2 (by omega) (by omega)
  rw [hR2] at K
  have K := hid K
  have HW1 := hid hw1
  have HW2 := hid hw2
  have HB2 := hid b2
  have HS1 := hid s1
  clear hw1 hw2 b1 b2 hx1 hx2' s1 hR hR2 hc
  unfold Wg.val
  go_enter Try.func60, Try.ntmps60
  go_upto_region 1 with fail
  rw [HW1.out, HW2.out]
  try rw [HS1.out]
  clear HW1 HW2
  go_wp2_with fail
  refine K.out.mono ?_
  clear K c1 c2 c3 c4
  rintro e w3 ⟨rfl, h3⟩
  have hb3 := (Below.block h3 (w.heap.size + 1) (Array.getElem?_eq_some_iff.1 HB2.out).1).trans HB2.out
  obtain ⟨c0, c1, hf⟩ := rat_cells hb3
  have hx3 := hx2.trans h3
  have b9 := rat_put hb3 (.int .i64 R.1) (.int .i64 R.2)
  have hx9 := Ext.setCell (Ext.setCell hx3 (p := ⟨w.heap.size + 1, 0, none⟩) (Nat.le_succ _) (.int .i64 R.1)) (p := ⟨w.heap.size + 1, 1, none⟩) (Nat.le_succ _) (.int .i64 R.2)
  obtain ⟨w9, hw9⟩ : ∃ w9, (w3.setCell ⟨w.heap.size + 1, 0, none⟩ (.int .i64 R.1)).setCell ⟨w.heap.size + 1, 1, none⟩ (.int .i64 R.2) = w9 := ⟨_, rfl⟩
  rw [hw9] at b9 hx9
  obtain ⟨k0, k1, -⟩ := rat_cells b9
  have HW9 := hid hw9
  clear hw9 b9 hb3 HB2
  unfold rval
  go_wp2
  try rw [HW9.out]
  refine bodyPost_ret (v := rval R) ?_ rfl ⟨rfl, hx9⟩
  simp [results, Try.results60, go_sem, rval, k0, k1]
theorem wgM_sm {x : Wg} (hm : WgM x) : (Rpos x.lo ∧ Rpos x.hi) ∧ Rsm x.lo ∧ Rsm x.hi := by
  obtain ⟨h1, h2, h3, h4⟩ := hm
  have a := lowR_pos (n := x.ml) (d := x.sh) (by omega) (by omega)
  have b := lowR_pos (n := x.mh) (d := x.sl) (by omega) (by omega)
  have c := lowR_le (n := x.ml) (d := x.sh) (by omega) (by omega)
  have d := lowR_le (n := x.mh) (d := x.sl) (by omega) (by omega)
  refine ⟨⟨a, b⟩, ?_, ?_⟩
  · unfold Rpos at a
    unfold Rsm Wg.lo
    exact ⟨⟨by omega, by omega⟩, by omega, by omega⟩
  · unfold Rpos at b
    unfold Rsm Wg.hi
    exact ⟨⟨by omega, by omega⟩, by omega, by omega⟩

set_option maxRecDepth 100000 in
set_option maxHeartbeats 1000000 in
theorem holds_any (x : Wg) (r : Rt) (w : World) (hm : WgM x) (hr : Rsm r) :
    Calls Try.prog 48 #[x.val, rval r] w fun e w' => e = .returned (.bool (holdW x r)) ∧ Ext w w' := by
  obtain ⟨⟨hp1, hp2⟩, hs1, hs2⟩ := wgM_sm hm
  obtain ⟨W0, hW0⟩ : ∃ W0, w.alloc (.cells #[.int .i64 x.mo, .int .i64 x.sl, .int .i64 x.sh, .int .i64 x.ml, .int .i64 x.mh] 92) = W0 := ⟨_, rfl⟩
  obtain ⟨W1, hW1⟩ : ∃ W1, W0.alloc (.cells #[.int .i64 r.1, .int .i64 r.2] 43) = W1 := ⟨_, rfl⟩
  have hx0 : Ext w W0 := by rw [← hW0]; exact Ext.alloc (Ext.refl w) _
  have hx1 : Ext W0 W1 := by rw [← hW1]; exact Ext.alloc (Ext.refl W0) _
  have s0 : W0.heap.size = w.heap.size + 1 := by rw [← hW0]; simp
  have b0 : W1.heap[w.heap.size]? = some (.cells #[.int .i64 x.mo, .int .i64 x.sl, .int .i64 x.sh, .int .i64 x.ml, .int .i64 x.mh] 92 (0, 0)) := (Below.block hx1 _ (by omega)).trans (by rw [← hW0]; exact heap_alloc_new w _)
  have b1 : W1.heap[w.heap.size + 1]? = some (.cells #[.int .i64 r.1, .int .i64 r.2] 43 (0, 0)) := by rw [← hW1, ← s0]; exact heap_alloc_new W0 _
  have FX : Hid (∀ w', Ext W1 w' → (w'.cell? ⟨w.heap.size, 0, none⟩ = some (.int .i64 x.mo) ∧ w'.cell? ⟨w.heap.size, 1, none⟩ = some (.int .i64 x.sl) ∧ w'.cell? ⟨w.heap.size, 2, none⟩ = some (.int .i64 x.sh) ∧ w'.cell? ⟨w.heap.size, 3, none⟩ = some (.int .i64 x.ml) ∧ w'.cell? ⟨w.heap.size, 4, none⟩ = some (.int .i64 x.mh)) ∧ w'.cell? ⟨w.heap.size + 1, 0, none⟩ = some (.int .i64 r.1) ∧ w'.cell? ⟨w.heap.size + 1, 1, none⟩ = some (.int .i64 r.2)) := fun w' hx => by
    have hc := fun i u hu => hx.cell (rblk_cells (xs := [.int .i64 x.mo, .int .i64 x.sl, .int .i64 x.sh, .int .i64 x.ml, .int .i64 x.mh]) b0 i u hu)
    obtain ⟨q0, q1, -⟩ := rat_cells b1
    exact ⟨⟨hc 0 _ rfl, hc 1 _ rfl, hc 2 _ rfl, hc 3 _ rfl, hc 4 _ rfl⟩, hx.cell q0, hx.cell q1⟩
  have HV : Hid (holdW x r = (!abv x.lo r && !abv r x.hi)) := by unfold Hid holdW; cases abv x.lo r <;> cases abv r x.hi <;> rfl
  have KLE : Hid (∀ w', Calls Try.prog 59 #[x.val] w' fun e w2 => e = .returned (rval x.lo) ∧ Ext w' w2) := fun w' => refleast_any x w' hm
  have KMO : Hid (∀ w', Calls Try.prog 60 #[x.val] w' fun e w2 => e = .returned (rval x.hi) ∧ Ext w' w2) := fun w' => refmost_any x w' hm
  have KL1 := fun w' => less_any r x.lo w' hr hs1
  have KL2 := fun w' => less_any x.hi r w' hs2 hr
  obtain ⟨B1, hB1⟩ : ∃ B, abv x.lo r = B := ⟨_, rfl⟩
  obtain ⟨B2, hB2⟩ : ∃ B, abv r x.hi = B := ⟨_, rfl⟩
  rw [hB1] at KL1 HV
  rw [hB2] at KL2 HV
  have KL1 := hid KL1
  have KL2 := hid KL2
  have hx := hx0.trans hx1
  unfold Wg.val rval at KLE KMO KL1 KL2
  clear hB1 hB2 b0 b1 hp1 hp2 hs1 hs2 hx0 hx1
  have HW0 := hid hW0
  have HW1 := hid hW1
  have HS0 := hid s0
  clear hW0 hW1 s0
  unfold Wg.val rval
  go_enter Try.func48, Try.ntmps48
  go_upto_region 1 with fail
  rw [HW0.out, HW1.out]
  try rw [HS0.out]
  clear HW0 HW1 HS0
  cases B1
  · refine wp_region_shut Ext (fun w' => Ext W1 w') (fun
      | 2 => some (fun v _ => v = .agg #[.int .i64 x.lo.1, .int .i64 x.lo.2]) 
      | 3 => some (fun v _ => v = .bool false) 
      | 7 => some (fun v _ => v = .agg #[.int .i64 x.hi.1, .int .i64 x.hi.2]) 
      | 9 => some (fun v _ => v = .bool B2)
      | _ => none) (by kernel_rfl) (by kernel_rfl) (fun _ _ h k => h.trans k) ?hTa (Ext.drew (Ext.refl W1)) ?_
    case hTa =>
      intro i R hR
      match i, hR with
      | 2, hR => cases hR; exact fun _ _ _ h _ => h
      | 3, hR => cases hR; exact fun _ _ _ h _ => h
      | 7, hR => cases hR; exact fun _ _ _ h _ => h
      | 9, hR => cases hR; exact fun _ _ _ h _ => h
    refine wM_val ?ua0 rfl rfl Ext.refl (fun w' hD => ?ha0) (fun pha0 => ?na0)
    case ha0 =>
      obtain ⟨⟨e0, e1, e2, e3, e4⟩, f0, f1⟩ := FX.out w' hD.1
      go_simp; rfl
    simp only [Act.put, List.setIfInBounds_toArray, List.set_cons_succ, List.set_cons_zero, Nat.reduceAdd]
    refine wM_val ?ua1 rfl rfl Ext.refl (fun w' hD => ?ha1) (fun pha1 => ?na1)
    case ha1 =>
      obtain ⟨⟨e0, e1, e2, e3, e4⟩, f0, f1⟩ := FX.out w' hD.1
      go_simp; rfl
    simp only [Act.put, List.setIfInBounds_toArray, List.set_cons_succ, List.set_cons_zero, Nat.reduceAdd]
    refine wM_op _ rfl rfl (opens_call ?fa2 ?ga2 (fun w' hD => ?ha2) (fun w' hD => ?ca2)) (fun v2 hv2 => ?na2)
    case ha2 => go_simp; constructor <;> rfl
    case ca2 =>
      refine (KLE.out w').mono ?_
      rintro e w2 ⟨rfl, hb⟩
      exact ⟨_, rfl, hb, rfl⟩
    obtain ⟨_, -, -, rfl⟩ := hv2
    simp only [Act.put, List.setIfInBounds_toArray, List.set_cons_succ, List.set_cons_zero, Nat.reduceAdd]
    refine wM_op _ rfl rfl (opens_call ?fa3 ?ga3 (fun w' hD => ?ha3) (fun w' hD => ?ca3)) (fun v3 hv3 => ?na3)
    case ha3 => go_simp; constructor <;> rfl
    case ca3 =>
      refine (KL1.out w').mono ?_
      rintro e w2 ⟨rfl, hb⟩
      exact ⟨_, rfl, hb, rfl⟩
    obtain ⟨_, -, -, rfl⟩ := hv3
    simp only [Act.put, List.setIfInBounds_toArray, List.set_cons_succ, List.set_cons_zero, Nat.reduceAdd]
    refine wM_val ?ua4 rfl rfl Ext.refl (fun w' hD => ?ha4) (fun pha4 => ?na4)
    case ha4 =>
      obtain ⟨⟨e0, e1, e2, e3, e4⟩, f0, f1⟩ := FX.out w' hD.1
      go_simp; rfl
    simp only [Act.put, List.setIfInBounds_toArray, List.set_cons_succ, List.set_cons_zero, Nat.reduceAdd]
    refine wM_val ?ua5 rfl rfl Ext.refl (fun w' hD => ?ha5) (fun pha5 => ?na5)
    case ha5 =>
      obtain ⟨⟨e0, e1, e2, e3, e4⟩, f0, f1⟩ := FX.out w' hD.1
      go_simp; rfl
    simp only [Act.put, List.setIfInBounds_toArray, List.set_cons_succ, List.set_cons_zero, Nat.reduceAdd]
    refine wM_val ?ua6 rfl rfl Ext.refl (fun w' hD => ?ha6) (fun pha6 => ?na6)
    case ha6 =>
      obtain ⟨⟨e0, e1, e2, e3, e4⟩, f0, f1⟩ := FX.out w' hD.1
      go_simp; rfl
    simp only [Act.put, List.setIfInBounds_toArray, List.set_cons_succ, List.set_cons_zero, Nat.reduceAdd]
    refine wM_op _ rfl rfl (opens_call ?fa7 ?ga7 (fun w' hD => ?ha7) (fun w' hD => ?ca7)) (fun v7 hv7 => ?na7)
    case ha7 => go_simp; constructor <;> rfl
    case ca7 =>
      refine (KMO.out w').mono ?_
      rintro e w2 ⟨rfl, hb⟩
      exact ⟨_, rfl, hb, rfl⟩
    obtain ⟨_, -, -, rfl⟩ := hv7
    simp only [Act.put, List.setIfInBounds_toArray, List.set_cons_succ, List.set_cons_zero, Nat.reduceAdd]
    refine wM_val ?ua8 rfl rfl Ext.refl (fun w' hD => ?ha8) (fun pha8 => ?na8)
    case ha8 =>
      obtain ⟨⟨e0, e1, e2, e3, e4⟩, f0, f1⟩ := FX.out w' hD.1
      go_simp; rfl
    simp only [Act.put, List.setIfInBounds_toArray, List.set_cons_succ, List.set_cons_zero, Nat.reduceAdd]
    refine wM_op _ rfl rfl (opens_call ?fa9 ?ga9 (fun w' hD => ?ha9) (fun w' hD => ?ca9)) (fun v9 hv9 => ?na9)
    case ha9 => go_simp; constructor <;> rfl
    case ca9 =>
      refine (KL2.out w').mono ?_
      rintro e w2 ⟨rfl, hb⟩
      exact ⟨_, rfl, hb, rfl⟩
    obtain ⟨_, -, -, rfl⟩ := hv9
    simp only [Act.put, List.setIfInBounds_toArray, List.set_cons_succ, List.set_cons_zero, Nat.reduceAdd]
    refine wM_val ?ua10 rfl rfl Ext.refl (fun w' hD => ?ha10) (fun pha10 => ?na10)
    case ha10 =>
      obtain ⟨⟨e0, e1, e2, e3, e4⟩, f0, f1⟩ := FX.out w' hD.1
      go_simp; rfl
    simp only [Act.put, List.setIfInBounds_toArray, List.set_cons_succ, List.set_cons_zero, Nat.reduceAdd]
    refine wM_val ?ua11 rfl rfl Ext.refl (fun w' hD => ?ha11) (fun pha11 => ?na11)
    case ha11 =>
      obtain ⟨⟨e0, e1, e2, e3, e4⟩, f0, f1⟩ := FX.out w' hD.1
      go_simp; rfl
    simp only [Act.put, List.setIfInBounds_toArray, List.set_cons_succ, List.set_cons_zero, Nat.reduceAdd]
    refine wM_val ?ua12 rfl rfl Ext.refl (fun w' hD => ?ha12) (fun pha12 => ?na12)
    case ha12 =>
      obtain ⟨⟨e0, e1, e2, e3, e4⟩, f0, f1⟩ := FX.out w' hD.1
      go_simp; rfl
    simp only [Act.put, List.setIfInBounds_toArray, List.set_cons_succ, List.set_cons_zero, Nat.reduceAdd]
    refine wM_nil ?_
    intro w9 hw9 hF9
    clear hF9
    go_wp2
    go_ret
    exact ⟨ret_of (bool_of (by rw [HV.out]; rfl)), hx.trans hw9⟩
  · refine wp_region_shut Ext (fun w' => Ext W1 w') (fun
      | 2 => some (fun v _ => v = .agg #[.int .i64 x.lo.1, .int .i64 x.lo.2]) 
      | 3 => some (fun v _ => v = .bool true)
      | _ => none) (by kernel_rfl) (by kernel_rfl) (fun _ _ h k => h.trans k) ?hTb (Ext.drew (Ext.refl W1)) ?_
    case hTb =>
      intro i R hR
      match i, hR with
      | 2, hR => cases hR; exact fun _ _ _ h _ => h
      | 3, hR => cases hR; exact fun _ _ _ h _ => h
    refine wM_val ?ub0 rfl rfl Ext.refl (fun w' hD => ?hb0) (fun phb0 => ?nb0)
    case hb0 =>
      obtain ⟨⟨e0, e1, e2, e3, e4⟩, f0, f1⟩ := FX.out w' hD.1
      go_simp; rfl
    simp only [Act.put, List.setIfInBounds_toArray, List.set_cons_succ, List.set_cons_zero, Nat.reduceAdd]
    refine wM_val ?ub1 rfl rfl Ext.refl (fun w' hD => ?hb1) (fun phb1 => ?nb1)
    case hb1 =>
      obtain ⟨⟨e0, e1, e2, e3, e4⟩, f0, f1⟩ := FX.out w' hD.1
      go_simp; rfl
    simp only [Act.put, List.setIfInBounds_toArray, List.set_cons_succ, List.set_cons_zero, Nat.reduceAdd]
    refine wM_op _ rfl rfl (opens_call ?fb2 ?gb2 (fun w' hD => ?hb2) (fun w' hD => ?cb2)) (fun v2 hv2 => ?nb2)
    case hb2 => go_simp; constructor <;> rfl
    case cb2 =>
      refine (KLE.out w').mono ?_
      rintro e w2 ⟨rfl, hb⟩
      exact ⟨_, rfl, hb, rfl⟩
    obtain ⟨_, -, -, rfl⟩ := hv2
    simp only [Act.put, List.setIfInBounds_toArray, List.set_cons_succ, List.set_cons_zero, Nat.reduceAdd]
    refine wM_op _ rfl rfl (opens_call ?fb3 ?gb3 (fun w' hD => ?hb3) (fun w' hD => ?cb3)) (fun v3 hv3 => ?nb3)
    case hb3 => go_simp; constructor <;> rfl
    case cb3 =>
      refine (KL1.out w').mono ?_
      rintro e w2 ⟨rfl, hb⟩
      exact ⟨_, rfl, hb, rfl⟩
    obtain ⟨_, -, -, rfl⟩ := hv3
    simp only [Act.put, List.setIfInBounds_toArray, List.set_cons_succ, List.set_cons_zero, Nat.reduceAdd]
    refine wM_val ?ub4 rfl rfl Ext.refl (fun w' hD => ?hb4) (fun phb4 => ?nb4)
    case hb4 =>
      obtain ⟨⟨e0, e1, e2, e3, e4⟩, f0, f1⟩ := FX.out w' hD.1
      go_simp; rfl
    simp only [Act.put, List.setIfInBounds_toArray, List.set_cons_succ, List.set_cons_zero, Nat.reduceAdd]
    refine wM_val ?ub5 rfl rfl Ext.refl (fun w' hD => ?hb5) (fun phb5 => ?nb5)
    case hb5 =>
      obtain ⟨⟨e0, e1, e2, e3, e4⟩, f0, f1⟩ := FX.out w' hD.1
      go_simp; rfl
    simp only [Act.put, List.setIfInBounds_toArray, List.set_cons_succ, List.set_cons_zero, Nat.reduceAdd]
    refine wM_skip rfl ?_
    simp only [Act.put, List.setIfInBounds_toArray, List.set_cons_succ, List.set_cons_zero, Nat.reduceAdd]
    refine wM_skip rfl ?_
    simp only [Act.put, List.setIfInBounds_toArray, List.set_cons_succ, List.set_cons_zero, Nat.reduceAdd]
    refine wM_skip rfl ?_
    simp only [Act.put, List.setIfInBounds_toArray, List.set_cons_succ, List.set_cons_zero, Nat.reduceAdd]
    refine wM_skip rfl ?_
    simp only [Act.put, List.setIfInBounds_toArray, List.set_cons_succ, List.set_cons_zero, Nat.reduceAdd]
    refine wM_skip rfl ?_
    simp only [Act.put, List.setIfInBounds_toArray, List.set_cons_succ, List.set_cons_zero, Nat.reduceAdd]
    refine wM_val ?ub11 rfl rfl Ext.refl (fun w' hD => ?hb11) (fun phb11 => ?nb11)
    case hb11 =>
      obtain ⟨⟨e0, e1, e2, e3, e4⟩, f0, f1⟩ := FX.out w' hD.1
      go_simp; rfl
    simp only [Act.put, List.setIfInBounds_toArray, List.set_cons_succ, List.set_cons_zero, Nat.reduceAdd]
    refine wM_val ?ub12 rfl rfl Ext.refl (fun w' hD => ?hb12) (fun phb12 => ?nb12)
    case hb12 =>
      obtain ⟨⟨e0, e1, e2, e3, e4⟩, f0, f1⟩ := FX.out w' hD.1
      go_simp; rfl
    simp only [Act.put, List.setIfInBounds_toArray, List.set_cons_succ, List.set_cons_zero, Nat.reduceAdd]
    refine wM_nil ?_
    intro w9 hw9 hF9
    clear hF9
    go_wp2
    go_ret
    exact ⟨ret_of (bool_of (by rw [HV.out]; rfl)), hx.trans hw9⟩
end Go.Proofs.Ytjnobdcbbboeeaa
