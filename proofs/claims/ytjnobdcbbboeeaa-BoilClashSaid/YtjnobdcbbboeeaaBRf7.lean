/- The walk of the reference's Meat of layer 8. Printed by my gen_brf7.py. -/
import Derived.Test.YtjnobdcbbboeeaaBRf6
import Derived.Test.YtjnobdcbbboeeaaH3
namespace Go.Proofs.Ytjnobdcbbboeeaa
open Go Go.RowKit Go.Shelf
set_option linter.unusedVariables false
set_option linter.unusedSimpArgs false

theorem ceil_alt {r : Rt} {s : Int} (hr : Rpos r) (hs : 0 ≤ s) : ceilR r s = if r.1 * s / r.2 * r.2 < r.1 * s then r.1 * s / r.2 + 1 else r.1 * s / r.2 := by
  have h2 : 0 < r.2 := hr.2
  have e := Int.mul_ediv_add_emod (r.1 * s) r.2
  have m1 := Int.emod_nonneg (r.1 * s) (show r.2 ≠ 0 by omega)
  have m2 := Int.emod_lt_of_pos (r.1 * s) h2
  obtain ⟨q, hq⟩ : ∃ q, r.1 * s / r.2 = q := ⟨_, rfl⟩
  obtain ⟨x, hx⟩ : ∃ x, r.1 * s = x := ⟨_, rfl⟩
  rw [hx] at hq
  rw [hx, hq] at e ⊢
  rw [hx] at m1 m2
  have e' : q * r.2 + x % r.2 = x := by rw [Int.mul_comm]; exact e
  have c := fun k => ceil_iff (r := r) (s := s) (k := k) hr hs
  rw [hx] at c
  split
  · rename_i hlt
    refine Int.le_antisymm ((c (q + 1)).1 ?_) ?_
    · rw [Int.add_mul, Int.one_mul]; omega
    · refine Int.not_lt.1 fun hn => ?_
      have := (c q).2 (by omega)
      omega
  · rename_i hge
    refine Int.le_antisymm ((c q).1 (by omega)) ?_
    refine Int.not_lt.1 fun hn => ?_
    have h1 := (c (q - 1)).2 (by omega)
    rw [Int.sub_mul, Int.one_mul] at h1
    omega
set_option maxRecDepth 100000 in
set_option maxHeartbeats 8000000 in
theorem refmeat_any (v : Value) (h : Hs) (m s : Int) (w : World) (hr : HsR w v h) (k : HsOK h) :
    Calls Try.prog 51 #[v, .int .i64 m, .int .i64 s] w fun e w' => e = .returned (.tuple #[.agg #[.int .i64 (meatL h m s), .int .i64 (meatU h m s)], .int .i64 (meatE h m s)]) ∧ Ext w w' := by
  obtain ⟨A, c, rfl, hrw, hcap⟩ := hr
  obtain ⟨N, hN⟩ : ∃ N : Nat, h.ws.length = N := ⟨_, rfl⟩
  unfold hval
  rw [hN]
  obtain ⟨W0, hW0⟩ : ∃ W0, w.alloc (.cells #[.int .i64 h.mo, .int .i64 h.pk, .slice A N c] 75) = W0 := ⟨_, rfl⟩
  obtain ⟨W1, hW1⟩ : ∃ W1, W0.alloc (.cells #[.int .i64 0, .int .i64 0] 47) = W1 := ⟨_, rfl⟩
  have hx0 : Ext w W0 := by rw [← hW0]; exact Ext.alloc (Ext.refl w) _
  have hx01 : Ext W0 W1 := by rw [← hW1]; exact Ext.alloc (Ext.refl _) _
  have s0 : W0.heap.size = w.heap.size + 1 := by rw [← hW0]; simp
  have hx1 := hx0.trans hx01
  have b0 : W1.heap[w.heap.size]? = some (.cells #[.int .i64 h.mo, .int .i64 h.pk, .slice A N c] 75 (0, 0)) := (Below.block hx01 _ (by omega)).trans (by rw [← hW0]; exact heap_alloc_new w _)
  have b1 : W1.heap[w.heap.size + 1]? = some (.cells #[.int .i64 0, .int .i64 0] 47 (0, 0)) := by rw [← hW1, ← s0]; exact heap_alloc_new W0 _
  have FH : Hid (∀ w', Ext W1 w' → w'.cell? ⟨w.heap.size, 0, none⟩ = some (.int .i64 h.mo) ∧ w'.cell? ⟨w.heap.size, 1, none⟩ = some (.int .i64 h.pk) ∧ w'.cell? ⟨w.heap.size, 2, none⟩ = some (.slice A N c)) := fun w' hx => by
    obtain ⟨q0, q1, q2, -⟩ := rhouse_cells b0
    exact ⟨hx.cell q0, hx.cell q1, hx.cell q2⟩
  have F6 : Hid (∀ w', Ext W1 w' → w'.heap[w.heap.size + 1]? = some (.cells #[.int .i64 0, .int .i64 0] 47 (0, 0))) := fun w' hx => (Below.block hx _ (Array.getElem?_eq_some_iff.1 b1).1).trans b1
  have hmo := k.mo
  have hc0 := checkH_of k
  have HC0 := hid hc0
  have HK := hid k
  have HBD : Hid (0 ≤ m ∧ m < h.mo → ∀ w', Ext W1 w' → Calls Try.prog 50 #[.agg #[.int .i64 h.mo, .int .i64 h.pk, .slice A N c], .int .i64 m] w' fun e w2 => e = .returned (.tuple #[rval (bndL h m), rval (bndU h m), .int .i64 (bndE h m)]) ∧ Ext w' w2) := fun hm w' hx => refbounds_any _ h m w' ⟨A, c, by unfold hval; rw [hN], Rows.ext hrw (hx1.trans hx), hcap⟩ HK.out hm
  have HMO : Hid (moOK h m = inB m 0 (h.mo - 1)) := rfl
  have HME : Hid (meatE h m s = if inB s 0 1000 = false then 3 else if bndE h m ≠ 0 then bndE h m else if floorR (bndU h m) s < ceilR (bndL h m) s then 8 else 0) := by unfold Hid meatE; rw [if_neg (by simp [hc0])]
  have HBM : Hid (inB m 0 (h.mo - 1) = false → bndE h m = 1) := fun e => by unfold bndE; rw [if_neg (by simp [hc0]), if_pos (by unfold moOK; exact e)]
  have HML : Hid (meatL h m s = if meatE h m s = 0 then ceilR (bndL h m) s else 0) := rfl
  have HMU : Hid (meatU h m s = if meatE h m s = 0 then floorR (bndU h m) s else 0) := rfl
  obtain ⟨E, hE⟩ : ∃ x, meatE h m s = x := ⟨_, rfl⟩
  obtain ⟨L, hL⟩ : ∃ x, meatL h m s = x := ⟨_, rfl⟩
  obtain ⟨U, hU⟩ : ∃ x, meatU h m s = x := ⟨_, rfl⟩
  rw [hE] at HME HML HMU
  rw [hL] at HML
  rw [hU] at HMU
  rw [hE, hL, hU]
  have HW0 := hid hW0
  have HW1 := hid hW1
  have HS0 := hid s0
  have e2 : IntKind.i64.wrap (h.mo - 1) = h.mo - 1 := IntWalk.i64_in _ ⟨by omega, by omega⟩
  clear hE hL hU hW0 hW1 s0 b0 b1 hrw hcap hN k hc0 hx0 hx01
  go_enter Try.func51, Try.ntmps51
  go_upto_region 1 with fail
  rw [HW0.out, HW1.out]
  try rw [HS0.out]
  clear HW0 HW1 HS0
  go_wp2_with fail
  refine (off_any _ _ _ _).mono ?_
  rintro e w1 ⟨rfl, hwq⟩
  subst hwq
  have hxw := Ext.refl W1
  obtain ⟨c0, c1, c2⟩ := FH.out W1 hxw
  cases q1 : inB s 0 1000
  · have e3 : E = 3 := by rw [HME.out, if_pos q1]
    subst e3
    obtain rfl : L = 0 := HML.out
    obtain rfl : U = 0 := HMU.out
    clear HME HML HMU
    have hb6 := F6.out W1 hxw
    obtain ⟨z0, z1, zf⟩ := rat_cells hb6
    have p1 := rat_put hb6 (.int .i64 0) (.int .i64 0)
    have p3 := Ext.setCell (Ext.setCell (hx1.trans hxw) (p := ⟨w.heap.size + 1, 0, none⟩) (Nat.le_succ _) (.int .i64 0)) (p := ⟨w.heap.size + 1, 1, none⟩) (Nat.le_succ _) (.int .i64 0)
    obtain ⟨W9, hW9⟩ : ∃ W9, (W1.setCell ⟨w.heap.size + 1, 0, none⟩ (.int .i64 0)).setCell ⟨w.heap.size + 1, 1, none⟩ (.int .i64 0) = W9 := ⟨_, rfl⟩
    rw [hW9] at p1 p3
    obtain ⟨k0, k1, -⟩ := rat_cells p1
    have HW9 := hid hW9
    clear hW9 p1 hb6
    go_wp2
    try rw [HW9.out]
    refine bodyPost_ret (v := .tuple #[.agg #[.int .i64 0, .int .i64 0], .int .i64 3]) ?_ rfl ⟨by rfl, p3⟩
    simp [results, Try.results51, go_sem, k0, k1]
  · have hs := inB_iff.1 q1
    have HME2 : Hid (E = if bndE h m ≠ 0 then bndE h m else if floorR (bndU h m) s < ceilR (bndL h m) s then 8 else 0) := by unfold Hid; rw [HME.out, if_neg (by rw [q1]; simp)]
    clear HME q1
    go_wp2_with fail
    refine (off_any _ _ _ _).mono ?_
    rintro e w1 ⟨rfl, hwq⟩
    subst hwq
    cases q2 : inB m 0 (h.mo - 1)
    · have e3 : E = 1 := by rw [HME2.out, HBM.out q2]; rfl
      subst e3
      obtain rfl : L = 0 := HML.out
      obtain rfl : U = 0 := HMU.out
      clear HME2 HML HMU
      have hb6 := F6.out W1 hxw
      obtain ⟨z0, z1, zf⟩ := rat_cells hb6
      have p1 := rat_put hb6 (.int .i64 0) (.int .i64 0)
      have p3 := Ext.setCell (Ext.setCell (hx1.trans hxw) (p := ⟨w.heap.size + 1, 0, none⟩) (Nat.le_succ _) (.int .i64 0)) (p := ⟨w.heap.size + 1, 1, none⟩) (Nat.le_succ _) (.int .i64 0)
      obtain ⟨W9, hW9⟩ : ∃ W9, (W1.setCell ⟨w.heap.size + 1, 0, none⟩ (.int .i64 0)).setCell ⟨w.heap.size + 1, 1, none⟩ (.int .i64 0) = W9 := ⟨_, rfl⟩
      rw [hW9] at p1 p3
      obtain ⟨k0, k1, -⟩ := rat_cells p1
      have HW9 := hid hW9
      clear hW9 p1 hb6
      go_wp2
      try rw [HW9.out]
      refine bodyPost_ret (v := .tuple #[.agg #[.int .i64 0, .int .i64 0], .int .i64 1]) ?_ rfl ⟨by rfl, p3⟩
      simp [results, Try.results51, go_sem, k0, k1]
    · have hm := inB_iff.1 q2
      have KB := HBD.out (by omega) W1 hxw
      obtain ⟨EB, hEB⟩ : ∃ x, bndE h m = x := ⟨_, rfl⟩
      obtain ⟨lo, hlo⟩ : ∃ x, bndL h m = x := ⟨_, rfl⟩
      obtain ⟨hi, hhi⟩ : ∃ x, bndU h m = x := ⟨_, rfl⟩
      have HBO : Hid (EB = 0 → (Rpos lo ∧ Rpos hi) ∧ lo.1 ≤ 1000 ∧ lo.2 ≤ 1000 ∧ hi.1 ≤ 1000 ∧ hi.2 ≤ 1000) := fun e => by
        have b := bnd_ok HK.out (hEB.trans e)
        have l := b.le1000 HK.out
        rw [hlo, hhi] at l
        have p1 := b.pl
        have p2 := b.ph
        rw [hlo] at p1
        rw [hhi] at p2
        exact ⟨⟨p1, p2⟩, l⟩
      rw [hEB, hlo, hhi] at KB HME2
      rw [hlo] at HML
      rw [hhi] at HMU
      unfold rval at KB
      have KB := hid KB
      clear hEB hlo hhi HBD HBM q2
      go_wp2_with fail
      refine KB.out.mono ?_
      rintro e w2 ⟨rfl, hx2⟩
      clear KB c0 c1 c2
      go_upto_region 6 with fail
      obtain ⟨P, hP⟩ : ∃ P, (w2.alloc (.cells #[.int .i64 lo.1, .int .i64 lo.2] 43)).alloc (.cells #[.int .i64 hi.1, .int .i64 hi.2] 43) = P := ⟨_, rfl⟩
      have xP : Ext w2 P := by rw [← hP]; exact (Ext.refl _).alloc _ |>.alloc _
      have ba : P.heap[w2.heap.size]? = some (.cells #[.int .i64 lo.1, .int .i64 lo.2] 43 (0, 0)) := by rw [← hP]; exact (Below.heap_alloc _ _ _ (by simp)).trans (heap_alloc_new w2 _)
      have bb : P.heap[w2.heap.size + 1]? = some (.cells #[.int .i64 hi.1, .int .i64 hi.2] 43 (0, 0)) := by
        rw [← hP]
        have q := heap_alloc_new (w2.alloc (.cells #[.int .i64 lo.1, .int .i64 lo.2] 43)) (.cells #[.int .i64 hi.1, .int .i64 hi.2] 43)
        rw [World.size_alloc] at q
        exact q
      try rw [hP]
      clear hP
      have hxP := hx2.trans xP
      obtain ⟨l0, l1, -⟩ := rat_cells ba
      obtain ⟨h0, h1, -⟩ := rat_cells bb
      clear ba bb hx2 xP
      by_cases hE0 : EB = 0
      case neg =>
        have hE0b : (EB != 0) = true := by simpa using hE0
        have e3 : E = EB := by rw [HME2.out, if_pos hE0]
        subst e3
        obtain rfl : L = 0 := by rw [HML.out, if_neg hE0]
        obtain rfl : U = 0 := by rw [HMU.out, if_neg hE0]
        clear HME2 HML HMU HBO
        have hb6 := F6.out P hxP
        obtain ⟨z0, z1, zf⟩ := rat_cells hb6
        have p1 := rat_put hb6 (.int .i64 0) (.int .i64 0)
        have p3 := Ext.setCell (Ext.setCell (hx1.trans hxP) (p := ⟨w.heap.size + 1, 0, none⟩) (Nat.le_succ _) (.int .i64 0)) (p := ⟨w.heap.size + 1, 1, none⟩) (Nat.le_succ _) (.int .i64 0)
        obtain ⟨W9, hW9⟩ : ∃ W9, (P.setCell ⟨w.heap.size + 1, 0, none⟩ (.int .i64 0)).setCell ⟨w.heap.size + 1, 1, none⟩ (.int .i64 0) = W9 := ⟨_, rfl⟩
        rw [hW9] at p1 p3
        obtain ⟨k0, k1, -⟩ := rat_cells p1
        have HW9 := hid hW9
        clear hW9 p1 hb6
        go_wp2
        try rw [HW9.out]
        refine bodyPost_ret (v := .tuple #[.agg #[.int .i64 0, .int .i64 0], .int .i64 E]) ?_ rfl ⟨by rfl, p3⟩
        simp [results, Try.results51, go_sem, k0, k1]
      subst hE0
      obtain ⟨⟨p1, p2⟩, r1, r2, r3, r4⟩ := HBO.out rfl
      have a1 : 0 < lo.1 := p1.1
      have a2 : 0 < lo.2 := p1.2
      have a3 : 0 < hi.1 := p2.1
      have a4 : 0 < hi.2 := p2.2
      have m1 := mul_small (x := lo.1) (y := s) (by omega) (by omega)
      have m2 := mul_small (x := hi.1) (y := s) (by omega) (by omega)
      have V1 : IntKind.i64.wrap (lo.1 * s) = lo.1 * s := IntWalk.i64_in _ ⟨by omega, by omega⟩
      have V2 : IntKind.i64.wrap (hi.1 * s) = hi.1 * s := IntWalk.i64_in _ ⟨by omega, by omega⟩
      have d1 : 0 ≤ lo.1 * s / lo.2 ∧ lo.1 * s / lo.2 ≤ lo.1 * s := ⟨Int.ediv_nonneg m1.1 (by omega), Int.ediv_le_self _ m1.1⟩
      have d2 : 0 ≤ hi.1 * s / hi.2 ∧ hi.1 * s / hi.2 ≤ hi.1 * s := ⟨Int.ediv_nonneg m2.1 (by omega), Int.ediv_le_self _ m2.1⟩
      have V3 : IntKind.i64.wrap ((lo.1 * s).tdiv lo.2) = lo.1 * s / lo.2 := by rw [Int.tdiv_eq_ediv_of_nonneg m1.1]; exact IntWalk.i64_in _ ⟨by omega, by omega⟩
      have V4 : IntKind.i64.wrap ((hi.1 * s).tdiv hi.2) = hi.1 * s / hi.2 := by rw [Int.tdiv_eq_ediv_of_nonneg m2.1]; exact IntWalk.i64_in _ ⟨by omega, by omega⟩
      have hq := Int.mul_ediv_add_emod (lo.1 * s) lo.2
      have hq1 := Int.emod_nonneg (lo.1 * s) (show lo.2 ≠ 0 by omega)
      have hce := ceil_alt (r := lo) (s := s) p1 hs.1
      have hfl : floorR hi s = hi.1 * s / hi.2 := by unfold floorR; exact Int.tdiv_eq_ediv_of_nonneg m2.1
      obtain ⟨x, hx⟩ : ∃ x, lo.1 * s = x := ⟨_, rfl⟩
      obtain ⟨y, hy⟩ : ∃ y, hi.1 * s = y := ⟨_, rfl⟩
      rw [hx] at V1 V3 d1 m1 hq hq1 hce
      rw [hy] at V2 V4 d2 m2 hfl
      obtain ⟨q, hqq⟩ : ∃ q, x / lo.2 = q := ⟨_, rfl⟩
      obtain ⟨fl, hfq⟩ : ∃ q, y / hi.2 = q := ⟨_, rfl⟩
      rw [hqq] at V3 d1 hq hce
      rw [hfq] at V4 d2 hfl
      have hqm : q * lo.2 ≤ x := by rw [Int.mul_comm]; omega
      have hqn : 0 ≤ q * lo.2 := Int.mul_nonneg d1.1 (by omega)
      have V5 : IntKind.i64.wrap (q * lo.2) = q * lo.2 := IntWalk.i64_in _ ⟨by omega, by omega⟩
      have V6 : IntKind.i64.wrap (q + 1) = q + 1 := IntWalk.i64_in _ ⟨by omega, by omega⟩
      have hz1 : ¬ lo.2 = 0 := by omega
      have hz2 : ¬ hi.2 = 0 := by omega
      rw [hfl] at HME2 HMU
      have HCE := hid hce
      have VX : IntKind.i64.wrap (lo.1 * s) = x := by rw [hx]; exact V1
      have VY : IntKind.i64.wrap (hi.1 * s) = y := by rw [hy]; exact V2
      clear hx hy
      clear hce hq hq1 hqq hfq hfl m1 m2 d1 d2 p1 p2 r1 r2 r3 r4 hqn hqm
      by_cases hlt : q * lo.2 < x
      · have hce : ceilR lo s = q + 1 := by rw [HCE.out]; rw [if_pos hlt]
        rw [hce] at HME2 HML
        clear HCE hce
        by_cases hgt : q + 1 > fl
        · have e3 : E = 8 := by rw [HME2.out, if_neg (by simp), if_pos (by omega)]
          subst e3
          obtain rfl : L = 0 := HML.out
          obtain rfl : U = 0 := HMU.out
          clear HME2 HML HMU
          have hb6 := F6.out P hxP
          obtain ⟨z0, z1, zf⟩ := rat_cells hb6
          have p1 := rat_put hb6 (.int .i64 0) (.int .i64 0)
          have p3 := Ext.setCell (Ext.setCell (hx1.trans hxP) (p := ⟨w.heap.size + 1, 0, none⟩) (Nat.le_succ _) (.int .i64 0)) (p := ⟨w.heap.size + 1, 1, none⟩) (Nat.le_succ _) (.int .i64 0)
          obtain ⟨W9, hW9⟩ : ∃ W9, (P.setCell ⟨w.heap.size + 1, 0, none⟩ (.int .i64 0)).setCell ⟨w.heap.size + 1, 1, none⟩ (.int .i64 0) = W9 := ⟨_, rfl⟩
          rw [hW9] at p1 p3
          obtain ⟨k0, k1, -⟩ := rat_cells p1
          have HW9 := hid hW9
          clear hW9 p1 hb6
          go_wp2
          try rw [HW9.out]
          refine bodyPost_ret (v := .tuple #[.agg #[.int .i64 0, .int .i64 0], .int .i64 8]) ?_ rfl ⟨by rfl, p3⟩
          simp [results, Try.results51, go_sem, k0, k1]
        · have e3 : E = 0 := by rw [HME2.out, if_neg (by simp), if_neg (by omega)]
          subst e3
          have e4 : fl = U := HMU.out.symm
          have e5 : q + 1 = L := HML.out.symm
          subst e4
          subst e5
          clear HME2 HML HMU
          have hb6 := F6.out P hxP
          obtain ⟨z0, z1, zf⟩ := rat_cells hb6
          have p1 := rat_put hb6 (.int .i64 (q + 1)) (.int .i64 fl)
          have p3 := Ext.setCell (Ext.setCell (hx1.trans hxP) (p := ⟨w.heap.size + 1, 0, none⟩) (Nat.le_succ _) (.int .i64 (q + 1))) (p := ⟨w.heap.size + 1, 1, none⟩) (Nat.le_succ _) (.int .i64 fl)
          obtain ⟨W9, hW9⟩ : ∃ W9, (P.setCell ⟨w.heap.size + 1, 0, none⟩ (.int .i64 (q + 1))).setCell ⟨w.heap.size + 1, 1, none⟩ (.int .i64 fl) = W9 := ⟨_, rfl⟩
          rw [hW9] at p1 p3
          obtain ⟨k0, k1, -⟩ := rat_cells p1
          have HW9 := hid hW9
          clear hW9 p1 hb6
          go_wp2
          try rw [HW9.out]
          refine bodyPost_ret (v := .tuple #[.agg #[.int .i64 (q + 1), .int .i64 fl], .int .i64 0]) ?_ rfl ⟨by rfl, p3⟩
          simp [results, Try.results51, go_sem, k0, k1]
      · have hce : ceilR lo s = q := by rw [HCE.out]; rw [if_neg hlt]
        rw [hce] at HME2 HML
        clear HCE hce
        by_cases hgt : q > fl
        · have e3 : E = 8 := by rw [HME2.out, if_neg (by simp), if_pos (by omega)]
          subst e3
          obtain rfl : L = 0 := HML.out
          obtain rfl : U = 0 := HMU.out
          clear HME2 HML HMU
          have hb6 := F6.out P hxP
          obtain ⟨z0, z1, zf⟩ := rat_cells hb6
          have p1 := rat_put hb6 (.int .i64 0) (.int .i64 0)
          have p3 := Ext.setCell (Ext.setCell (hx1.trans hxP) (p := ⟨w.heap.size + 1, 0, none⟩) (Nat.le_succ _) (.int .i64 0)) (p := ⟨w.heap.size + 1, 1, none⟩) (Nat.le_succ _) (.int .i64 0)
          obtain ⟨W9, hW9⟩ : ∃ W9, (P.setCell ⟨w.heap.size + 1, 0, none⟩ (.int .i64 0)).setCell ⟨w.heap.size + 1, 1, none⟩ (.int .i64 0) = W9 := ⟨_, rfl⟩
          rw [hW9] at p1 p3
          obtain ⟨k0, k1, -⟩ := rat_cells p1
          have HW9 := hid hW9
          clear hW9 p1 hb6
          go_wp2
          try rw [HW9.out]
          refine bodyPost_ret (v := .tuple #[.agg #[.int .i64 0, .int .i64 0], .int .i64 8]) ?_ rfl ⟨by rfl, p3⟩
          simp [results, Try.results51, go_sem, k0, k1]
        · have e3 : E = 0 := by rw [HME2.out, if_neg (by simp), if_neg (by omega)]
          subst e3
          have e4 : fl = U := HMU.out.symm
          have e5 : q = L := HML.out.symm
          subst e4
          subst e5
          clear HME2 HML HMU
          have hb6 := F6.out P hxP
          obtain ⟨z0, z1, zf⟩ := rat_cells hb6
          have p1 := rat_put hb6 (.int .i64 (q)) (.int .i64 fl)
          have p3 := Ext.setCell (Ext.setCell (hx1.trans hxP) (p := ⟨w.heap.size + 1, 0, none⟩) (Nat.le_succ _) (.int .i64 (q))) (p := ⟨w.heap.size + 1, 1, none⟩) (Nat.le_succ _) (.int .i64 fl)
          obtain ⟨W9, hW9⟩ : ∃ W9, (P.setCell ⟨w.heap.size + 1, 0, none⟩ (.int .i64 (q))).setCell ⟨w.heap.size + 1, 1, none⟩ (.int .i64 fl) = W9 := ⟨_, rfl⟩
          rw [hW9] at p1 p3
          obtain ⟨k0, k1, -⟩ := rat_cells p1
          have HW9 := hid hW9
          clear hW9 p1 hb6
          go_wp2
          try rw [HW9.out]
          refine bodyPost_ret (v := .tuple #[.agg #[.int .i64 (q), .int .i64 fl], .int .i64 0]) ?_ rfl ⟨by rfl, p3⟩
          simp [results, Try.results51, go_sem, k0, k1]
end Go.Proofs.Ytjnobdcbbboeeaa
