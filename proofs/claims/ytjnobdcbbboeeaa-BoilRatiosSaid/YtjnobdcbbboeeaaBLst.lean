/- The walks of boil.weighed, boil.Least and boil.Greatest. Printed by my gen_blst.py. -/
import Derived.Test.YtjnobdcbbboeeaaBBouS
import Derived.Test.YtjnobdcbbboeeaaH4
import Derived.Test.YtjnobdcbbboeeaaH1
import Derived.Test.YtjnobdcbbboeeaaBRf1
namespace Go.Proofs.Ytjnobdcbbboeeaa
open Go Go.RowKit Go.Shelf
set_option linter.unusedVariables false
set_option linter.unusedSimpArgs false

def wgV (h : Hs) (n : Int) : Wg := if wgE h n = 0 then wgAt h n.toNat else ⟨0, 0, 0, 0, 0⟩
set_option maxRecDepth 100000 in
set_option maxHeartbeats 4000000 in
theorem weighedx_any (v : Value) (h : Hs) (n : Int) (w : World) (hr : HsR w v h) (hs : h.sized) :
    Calls Try.prog 104 #[v, .int .i64 n] w fun e w' => e = .returned (.tuple #[(wgV h n).val, .int .i64 (wgE h n)]) ∧ Ext w w' := by
  obtain ⟨A, c, rfl, hrw, hcap⟩ := hr
  obtain ⟨W0, hW0⟩ : ∃ W0, w.alloc (.cells #[.int .i64 h.mo, .int .i64 h.pk, .slice A h.ws.length c] 25) = W0 := ⟨_, rfl⟩
  obtain ⟨W1, hW1⟩ : ∃ W1, W0.alloc (.cells #[.int .i64 0, .int .i64 0, .int .i64 0, .int .i64 0, .int .i64 0] 55) = W1 := ⟨_, rfl⟩
  have hx0 : Ext w W0 := by rw [← hW0]; exact Ext.alloc (Ext.refl w) _
  have hx01 : Ext W0 W1 := by rw [← hW1]; exact Ext.alloc (Ext.refl _) _
  have s0 : W0.heap.size = w.heap.size + 1 := by rw [← hW0]; simp
  have hx1 := hx0.trans hx01
  have b0 : W1.heap[w.heap.size]? = some (.cells #[.int .i64 h.mo, .int .i64 h.pk, .slice A h.ws.length c] 25 (0, 0)) := (Below.block hx01 _ (by omega)).trans (by rw [← hW0]; exact heap_alloc_new w _)
  have b1 : W1.heap[w.heap.size + 1]? = some (.cells #[.int .i64 0, .int .i64 0, .int .i64 0, .int .i64 0, .int .i64 0] 55 (0, 0)) := by rw [← hW1, ← s0]; exact heap_alloc_new W0 _
  have FH : Hid (∀ w', Ext W1 w' → w'.cell? ⟨w.heap.size, 0, none⟩ = some (.int .i64 h.mo) ∧ w'.cell? ⟨w.heap.size, 1, none⟩ = some (.int .i64 h.pk) ∧ w'.cell? ⟨w.heap.size, 2, none⟩ = some (.slice A h.ws.length c)) := fun w' hx => by
    obtain ⟨q0, q1, q2, -⟩ := house_cells b0
    exact ⟨hx.cell q0, hx.cell q1, hx.cell q2⟩
  have F4 : Hid (∀ w', Ext W1 w' → w'.heap[w.heap.size + 1]? = some (.cells #[.int .i64 0, .int .i64 0, .int .i64 0, .int .i64 0, .int .i64 0] 55 (0, 0))) := fun w' hx => (Below.block hx _ (Array.getElem?_eq_some_iff.1 b1).1).trans b1
  have HRW : Hid (∀ w', Ext W1 w' → Wgs w' A h.ws) := fun w' hx => Rows.ext hrw (hx1.trans hx)
  have KC := hid (check_any (hval h A c) h W1 ⟨A, c, rfl, HRW.out W1 (Ext.refl _), hcap⟩ hs)
  have KW : Hid (∀ w', Ext W1 w' → _) := fun w' hx => weighing_any (hval h A c) h n w' ⟨A, c, rfl, HRW.out w' hx, hcap⟩ hs
  obtain ⟨T, hT⟩ : ∃ T, checkH h = T := ⟨_, rfl⟩
  obtain ⟨I, hI⟩ : ∃ I, wgOK h n = I := ⟨_, rfl⟩
  have HE : Hid (wgE h n = if T ≠ 0 then T else if I = true then 0 else 1) := by unfold Hid wgE; rw [hT, hI]
  have HI := hid hI
  rw [hT] at KC
  rw [hI] at KW
  unfold hval at KC KW
  have HW0 := hid hW0
  have HW1 := hid hW1
  have HS0 := hid s0
  clear hT hI hW0 hW1 s0 b0 b1 hrw hcap hs hx0 hx01
  unfold hval
  go_enter Try.func104, Try.ntmps104
  go_upto_region 1 with fail
  rw [HW0.out, HW1.out]
  try rw [HS0.out]
  clear HW0 HW1 HS0
  obtain ⟨c0, c1, c2⟩ := FH.out W1 (Ext.refl _)
  go_wp2_with fail
  refine KC.out.mono ?_
  rintro e w2 ⟨rfl, h2⟩
  clear KC c0 c1 c2
  by_cases h0 : T = 0
  case neg =>
    have h0b : (T != 0) = true := by simpa using h0
    have e1 : wgE h n = T := by rw [HE.out, if_pos h0]
    have e2 : wgV h n = ⟨0, 0, 0, 0, 0⟩ := by unfold wgV; rw [e1, if_neg h0]
    have HX := hid (And.intro e1 e2)
    clear HE e1 e2
    have hz := F4.out w2 h2
    obtain ⟨⟨z0, z1, z2, z3, z4⟩, zf⟩ := blk5_cells hz
    obtain ⟨W9, hW9⟩ : ∃ W, put5W w2 (w.heap.size + 1) 0 (⟨0, 0, 0, 0, 0⟩ : Wg) = W := ⟨_, rfl⟩
    have hb9 := put5_bel w2 (w.heap.size + 1) 0 (⟨0, 0, 0, 0, 0⟩ : Wg)
    have bo9 := put5_blk (⟨0, 0, 0, 0, 0⟩ : Wg) hz
    rw [hW9] at hb9 bo9
    unfold put5W at hW9
    simp only [Nat.zero_add] at hW9
    have hxe : Ext w W9 := Bel.extw (hx1.trans h2) hb9 (Nat.le_succ _)
    have HW9 := hid hW9
    obtain ⟨⟨k0, k1, k2, k3, k4⟩, -⟩ := blk5_cells bo9
    clear hW9 bo9 hz
    go_wp2
    try rw [HW9.out]
    refine bodyPost_ret (v := .tuple #[.agg #[.int .i64 0, .int .i64 0, .int .i64 0, .int .i64 0, .int .i64 0], .int .i64 T]) ?_ rfl ⟨by rw [HX.out.1, HX.out.2]; rfl, hxe⟩
    simp [results, Try.results104, go_sem, k0, k1, k2, k3, k4]
  subst h0
  obtain ⟨c0, c1, c2⟩ := FH.out w2 h2
  go_wp2_with fail
  refine (KW.out w2 h2).mono ?_
  rintro e w3 ⟨rfl, h3⟩
  have h23 := h2.trans h3
  clear KW c0 c1 c2
  obtain hIc | hIc : I = true ∨ I = false := by cases I <;> simp
  · subst hIc
    have hin := HI.out
    unfold wgOK at hin
    have hin2 := inB_iff.1 hin
    obtain ⟨k, hk⟩ : ∃ k : Nat, n = k := ⟨n.toNat, by omega⟩
    subst hk
    have hkl : k < h.ws.length := by omega
    have hkl' : (k : Int) < (h.ws.length : Int) := by omega
    obtain ⟨x, hxk⟩ := get_of_lt h.ws k hkl
    have e1 : wgE h (k : Int) = 0 := by rw [HE.out]; rfl
    have e2 : wgV h (k : Int) = x := by unfold wgV; rw [if_pos e1, Int.toNat_natCast]; unfold wgAt; rw [List.getD_eq_getElem?_getD, hxk]; rfl
    have HX := hid (And.intro e1 e2)
    obtain ⟨b, off, rfl, g0, g1, g2, g3, g4⟩ := Wgs.at_ (HRW.out w3 h23) hxk
    obtain ⟨c0, c1, c2⟩ := FH.out w3 h23
    clear HE e1 e2 hin hin2 hxk
    have hz := F4.out w3 h23
    obtain ⟨⟨z0, z1, z2, z3, z4⟩, zf⟩ := blk5_cells hz
    obtain ⟨W9, hW9⟩ : ∃ W, put5W w3 (w.heap.size + 1) 0 (x : Wg) = W := ⟨_, rfl⟩
    have hb9 := put5_bel w3 (w.heap.size + 1) 0 (x : Wg)
    have bo9 := put5_blk (x : Wg) hz
    rw [hW9] at hb9 bo9
    unfold put5W at hW9
    simp only [Nat.zero_add] at hW9
    have hxe : Ext w W9 := Bel.extw (hx1.trans h23) hb9 (Nat.le_succ _)
    have HW9 := hid hW9
    obtain ⟨⟨k0, k1, k2, k3, k4⟩, -⟩ := blk5_cells bo9
    clear hW9 bo9 hz
    go_wp2
    try rw [HW9.out]
    refine bodyPost_ret (v := .tuple #[.agg #[.int .i64 x.mo, .int .i64 x.sl, .int .i64 x.sh, .int .i64 x.ml, .int .i64 x.mh], .int .i64 0]) ?_ rfl ⟨by rw [HX.out.1, HX.out.2]; rfl, hxe⟩
    simp [results, Try.results104, go_sem, k0, k1, k2, k3, k4]
  · subst hIc
    have e1 : wgE h n = 1 := by rw [HE.out]; rfl
    have e2 : wgV h n = ⟨0, 0, 0, 0, 0⟩ := by unfold wgV; rw [e1]; rfl
    have HX := hid (And.intro e1 e2)
    clear HE e1 e2
    have hz := F4.out w3 h23
    obtain ⟨⟨z0, z1, z2, z3, z4⟩, zf⟩ := blk5_cells hz
    obtain ⟨W9, hW9⟩ : ∃ W, put5W w3 (w.heap.size + 1) 0 (⟨0, 0, 0, 0, 0⟩ : Wg) = W := ⟨_, rfl⟩
    have hb9 := put5_bel w3 (w.heap.size + 1) 0 (⟨0, 0, 0, 0, 0⟩ : Wg)
    have bo9 := put5_blk (⟨0, 0, 0, 0, 0⟩ : Wg) hz
    rw [hW9] at hb9 bo9
    unfold put5W at hW9
    simp only [Nat.zero_add] at hW9
    have hxe : Ext w W9 := Bel.extw (hx1.trans h23) hb9 (Nat.le_succ _)
    have HW9 := hid hW9
    obtain ⟨⟨k0, k1, k2, k3, k4⟩, -⟩ := blk5_cells bo9
    clear hW9 bo9 hz
    go_wp2
    try rw [HW9.out]
    refine bodyPost_ret (v := .tuple #[.agg #[.int .i64 0, .int .i64 0, .int .i64 0, .int .i64 0, .int .i64 0], .int .i64 1]) ?_ rfl ⟨by rw [HX.out.1, HX.out.2]; rfl, hxe⟩
    simp [results, Try.results104, go_sem, k0, k1, k2, k3, k4]
def lstV (h : Hs) (n : Int) : Rt := if wgE h n = 0 then (wgAt h n.toNat).lo else (0, 0)
set_option maxRecDepth 100000 in
set_option maxHeartbeats 4000000 in
theorem leastx_any (v : Value) (h : Hs) (n : Int) (w : World) (hr : HsR w v h) (hs : h.sized) :
    Calls Try.prog 57 #[v, .int .i64 n] w fun e w' => e = .returned (.tuple #[rval (lstV h n), .int .i64 (wgE h n)]) ∧ Ext w w' := by
  obtain ⟨A, c, rfl, hrw, hcap⟩ := hr
  obtain ⟨W0, hW0⟩ : ∃ W0, w.alloc (.cells #[.int .i64 h.mo, .int .i64 h.pk, .slice A h.ws.length c] 25) = W0 := ⟨_, rfl⟩
  obtain ⟨W1, hW1⟩ : ∃ W1, W0.alloc (.cells #[.int .i64 0, .int .i64 0] 43) = W1 := ⟨_, rfl⟩
  have hx0 : Ext w W0 := by rw [← hW0]; exact Ext.alloc (Ext.refl w) _
  have hx01 : Ext W0 W1 := by rw [← hW1]; exact Ext.alloc (Ext.refl _) _
  have s0 : W0.heap.size = w.heap.size + 1 := by rw [← hW0]; simp
  have hx1 := hx0.trans hx01
  have b0 : W1.heap[w.heap.size]? = some (.cells #[.int .i64 h.mo, .int .i64 h.pk, .slice A h.ws.length c] 25 (0, 0)) := (Below.block hx01 _ (by omega)).trans (by rw [← hW0]; exact heap_alloc_new w _)
  have b1 : W1.heap[w.heap.size + 1]? = some (.cells #[.int .i64 0, .int .i64 0] 43 (0, 0)) := by rw [← hW1, ← s0]; exact heap_alloc_new W0 _
  have F4 : Hid (∀ w', Ext W1 w' → w'.heap[w.heap.size + 1]? = some (.cells #[.int .i64 0, .int .i64 0] 43 (0, 0))) := fun w' hx => (Below.block hx _ (Array.getElem?_eq_some_iff.1 b1).1).trans b1
  obtain ⟨c0, c1, c2, -⟩ := house_cells b0
  have KW := hid (weighedx_any (hval h A c) h n W1 ⟨A, c, rfl, Rows.ext hrw hx1, hcap⟩ hs)
  obtain ⟨E, hE⟩ : ∃ E, wgE h n = E := ⟨_, rfl⟩
  obtain ⟨x, hx⟩ : ∃ x, wgV h n = x := ⟨_, rfl⟩
  have HXM : Hid (E = 0 → WgM x ∧ lstV h n = x.lo) := fun e => by
    have e' := hE.trans e
    have hck : checkH h = 0 := by
      unfold wgE at e'
      by_cases q : checkH h = 0
      · exact q
      · rw [if_pos q] at e'; exact e'
    have hok : wgOK h n = true := by
      unfold wgE at e'
      rw [if_neg (by simp [hck])] at e'
      by_cases q : wgOK h n = true
      · exact q
      · rw [if_neg q] at e'; cases e'
    have hb := inB_iff.1 (show inB n 0 ((h.ws.length : Int) - 1) = true from hok)
    have hxe : wgAt h n.toNat = x := by rw [← hx]; unfold wgV; rw [if_pos e']
    refine ⟨?_, by unfold lstV; rw [if_pos e', hxe]⟩
    rw [← hxe]
    exact wgM_of (checkH_ok hck) (wgAt_mem (by omega))
  have HXN : Hid (E ≠ 0 → lstV h n = (0, 0)) := fun e => by unfold lstV; rw [hE, if_neg e]
  rw [hE, hx] at KW
  rw [hE]
  unfold hval Wg.val at KW
  have HW0 := hid hW0
  have HW1 := hid hW1
  have HS0 := hid s0
  clear hE hx hW0 hW1 s0 b0 b1 hrw hcap hs hx0 hx01
  unfold hval
  go_enter Try.func57, Try.ntmps57
  go_upto_region 1 with fail
  rw [HW0.out, HW1.out]
  try rw [HS0.out]
  clear HW0 HW1 HS0
  go_wp2_with fail
  refine KW.out.mono ?_
  rintro e w2 ⟨rfl, h2⟩
  clear KW c0 c1 c2
  go_upto_region 2 with fail
  obtain ⟨W6, hW6⟩ : ∃ W6, w2.alloc (.cells #[.int .i64 x.mo, .int .i64 x.sl, .int .i64 x.sh, .int .i64 x.ml, .int .i64 x.mh] 55) = W6 := ⟨_, rfl⟩
  have hx6 : Ext w2 W6 := by rw [← hW6]; exact (Ext.refl _).alloc _
  have bx : W6.heap[w2.heap.size]? = some (.cells #[.int .i64 x.mo, .int .i64 x.sl, .int .i64 x.sh, .int .i64 x.ml, .int .i64 x.mh] 55 (0, 0)) := by rw [← hW6]; exact heap_alloc_new w2 _
  try rw [hW6]
  clear hW6
  have h6 := h2.trans hx6
  obtain ⟨⟨g0, g1, g2, g3, g4⟩, -⟩ := blk5_cells bx
  by_cases h0 : E = 0
  case neg =>
    have h0b : (E != 0) = true := by simpa using h0
    have HV := hid (HXN.out h0)
    have hz := F4.out W6 h6
    obtain ⟨z0, z1, zf⟩ := rat_cells hz
    have p1 := rat_put hz (.int .i64 0) (.int .i64 0)
    have p3 := Ext.setCell (Ext.setCell (hx1.trans h6) (p := ⟨w.heap.size + 1, 0, none⟩) (Nat.le_succ _) (.int .i64 0)) (p := ⟨w.heap.size + 1, 1, none⟩) (Nat.le_succ _) (.int .i64 0)
    obtain ⟨W9, hW9⟩ : ∃ W9, (W6.setCell ⟨w.heap.size + 1, 0, none⟩ (.int .i64 0)).setCell ⟨w.heap.size + 1, 1, none⟩ (.int .i64 0) = W9 := ⟨_, rfl⟩
    rw [hW9] at p1 p3
    obtain ⟨k0, k1, -⟩ := rat_cells p1
    have HW9 := hid hW9
    clear hW9 p1 hz
    go_wp2
    try rw [HW9.out]
    refine bodyPost_ret (v := .tuple #[.agg #[.int .i64 0, .int .i64 0], .int .i64 E]) ?_ rfl ⟨by rw [HV.out]; rfl, p3⟩
    simp [results, Try.results57, go_sem, k0, k1]
  subst h0
  obtain ⟨hm, hv⟩ := HXM.out rfl
  have HV := hid hv
  have KL := hid fun w' => least_any x w' ⟨hm.1, hm.2.1, hm.2.2.1, hm.2.2.2⟩
  obtain ⟨r, hr⟩ : ∃ r, x.lo = r := ⟨_, rfl⟩
  rw [hr] at KL HV
  unfold Wg.val rval at KL
  clear HXM HXN hv hm hr
  go_wp2_with fail
  refine (KL.out W6).mono ?_
  rintro e w3 ⟨rfl, h3⟩
  have h63 := h6.trans h3
  clear KL g0 g1 g2 g3 g4
  have hz := F4.out w3 h63
  obtain ⟨z0, z1, zf⟩ := rat_cells hz
  have p1 := rat_put hz (.int .i64 r.1) (.int .i64 r.2)
  have p3 := Ext.setCell (Ext.setCell (hx1.trans h63) (p := ⟨w.heap.size + 1, 0, none⟩) (Nat.le_succ _) (.int .i64 r.1)) (p := ⟨w.heap.size + 1, 1, none⟩) (Nat.le_succ _) (.int .i64 r.2)
  obtain ⟨W9, hW9⟩ : ∃ W9, (w3.setCell ⟨w.heap.size + 1, 0, none⟩ (.int .i64 r.1)).setCell ⟨w.heap.size + 1, 1, none⟩ (.int .i64 r.2) = W9 := ⟨_, rfl⟩
  rw [hW9] at p1 p3
  obtain ⟨k0, k1, -⟩ := rat_cells p1
  have HW9 := hid hW9
  clear hW9 p1 hz
  go_wp2
  try rw [HW9.out]
  refine bodyPost_ret (v := .tuple #[.agg #[.int .i64 r.1, .int .i64 r.2], .int .i64 0]) ?_ rfl ⟨by rw [HV.out]; rfl, p3⟩
  simp [results, Try.results57, go_sem, k0, k1]
def grtV (h : Hs) (n : Int) : Rt := if wgE h n = 0 then (wgAt h n.toNat).hi else (0, 0)
set_option maxRecDepth 100000 in
set_option maxHeartbeats 4000000 in
theorem greatx_any (v : Value) (h : Hs) (n : Int) (w : World) (hr : HsR w v h) (hs : h.sized) :
    Calls Try.prog 58 #[v, .int .i64 n] w fun e w' => e = .returned (.tuple #[rval (grtV h n), .int .i64 (wgE h n)]) ∧ Ext w w' := by
  obtain ⟨A, c, rfl, hrw, hcap⟩ := hr
  obtain ⟨W0, hW0⟩ : ∃ W0, w.alloc (.cells #[.int .i64 h.mo, .int .i64 h.pk, .slice A h.ws.length c] 25) = W0 := ⟨_, rfl⟩
  obtain ⟨W1, hW1⟩ : ∃ W1, W0.alloc (.cells #[.int .i64 0, .int .i64 0] 43) = W1 := ⟨_, rfl⟩
  have hx0 : Ext w W0 := by rw [← hW0]; exact Ext.alloc (Ext.refl w) _
  have hx01 : Ext W0 W1 := by rw [← hW1]; exact Ext.alloc (Ext.refl _) _
  have s0 : W0.heap.size = w.heap.size + 1 := by rw [← hW0]; simp
  have hx1 := hx0.trans hx01
  have b0 : W1.heap[w.heap.size]? = some (.cells #[.int .i64 h.mo, .int .i64 h.pk, .slice A h.ws.length c] 25 (0, 0)) := (Below.block hx01 _ (by omega)).trans (by rw [← hW0]; exact heap_alloc_new w _)
  have b1 : W1.heap[w.heap.size + 1]? = some (.cells #[.int .i64 0, .int .i64 0] 43 (0, 0)) := by rw [← hW1, ← s0]; exact heap_alloc_new W0 _
  have F4 : Hid (∀ w', Ext W1 w' → w'.heap[w.heap.size + 1]? = some (.cells #[.int .i64 0, .int .i64 0] 43 (0, 0))) := fun w' hx => (Below.block hx _ (Array.getElem?_eq_some_iff.1 b1).1).trans b1
  obtain ⟨c0, c1, c2, -⟩ := house_cells b0
  have KW := hid (weighedx_any (hval h A c) h n W1 ⟨A, c, rfl, Rows.ext hrw hx1, hcap⟩ hs)
  obtain ⟨E, hE⟩ : ∃ E, wgE h n = E := ⟨_, rfl⟩
  obtain ⟨x, hx⟩ : ∃ x, wgV h n = x := ⟨_, rfl⟩
  have HXM : Hid (E = 0 → WgM x ∧ grtV h n = x.hi) := fun e => by
    have e' := hE.trans e
    have hck : checkH h = 0 := by
      unfold wgE at e'
      by_cases q : checkH h = 0
      · exact q
      · rw [if_pos q] at e'; exact e'
    have hok : wgOK h n = true := by
      unfold wgE at e'
      rw [if_neg (by simp [hck])] at e'
      by_cases q : wgOK h n = true
      · exact q
      · rw [if_neg q] at e'; cases e'
    have hb := inB_iff.1 (show inB n 0 ((h.ws.length : Int) - 1) = true from hok)
    have hxe : wgAt h n.toNat = x := by rw [← hx]; unfold wgV; rw [if_pos e']
    refine ⟨?_, by unfold grtV; rw [if_pos e', hxe]⟩
    rw [← hxe]
    exact wgM_of (checkH_ok hck) (wgAt_mem (by omega))
  have HXN : Hid (E ≠ 0 → grtV h n = (0, 0)) := fun e => by unfold grtV; rw [hE, if_neg e]
  rw [hE, hx] at KW
  rw [hE]
  unfold hval Wg.val at KW
  have HW0 := hid hW0
  have HW1 := hid hW1
  have HS0 := hid s0
  clear hE hx hW0 hW1 s0 b0 b1 hrw hcap hs hx0 hx01
  unfold hval
  go_enter Try.func58, Try.ntmps58
  go_upto_region 1 with fail
  rw [HW0.out, HW1.out]
  try rw [HS0.out]
  clear HW0 HW1 HS0
  go_wp2_with fail
  refine KW.out.mono ?_
  rintro e w2 ⟨rfl, h2⟩
  clear KW c0 c1 c2
  go_upto_region 2 with fail
  obtain ⟨W6, hW6⟩ : ∃ W6, w2.alloc (.cells #[.int .i64 x.mo, .int .i64 x.sl, .int .i64 x.sh, .int .i64 x.ml, .int .i64 x.mh] 55) = W6 := ⟨_, rfl⟩
  have hx6 : Ext w2 W6 := by rw [← hW6]; exact (Ext.refl _).alloc _
  have bx : W6.heap[w2.heap.size]? = some (.cells #[.int .i64 x.mo, .int .i64 x.sl, .int .i64 x.sh, .int .i64 x.ml, .int .i64 x.mh] 55 (0, 0)) := by rw [← hW6]; exact heap_alloc_new w2 _
  try rw [hW6]
  clear hW6
  have h6 := h2.trans hx6
  obtain ⟨⟨g0, g1, g2, g3, g4⟩, -⟩ := blk5_cells bx
  by_cases h0 : E = 0
  case neg =>
    have h0b : (E != 0) = true := by simpa using h0
    have HV := hid (HXN.out h0)
    have hz := F4.out W6 h6
    obtain ⟨z0, z1, zf⟩ := rat_cells hz
    have p1 := rat_put hz (.int .i64 0) (.int .i64 0)
    have p3 := Ext.setCell (Ext.setCell (hx1.trans h6) (p := ⟨w.heap.size + 1, 0, none⟩) (Nat.le_succ _) (.int .i64 0)) (p := ⟨w.heap.size + 1, 1, none⟩) (Nat.le_succ _) (.int .i64 0)
    obtain ⟨W9, hW9⟩ : ∃ W9, (W6.setCell ⟨w.heap.size + 1, 0, none⟩ (.int .i64 0)).setCell ⟨w.heap.size + 1, 1, none⟩ (.int .i64 0) = W9 := ⟨_, rfl⟩
    rw [hW9] at p1 p3
    obtain ⟨k0, k1, -⟩ := rat_cells p1
    have HW9 := hid hW9
    clear hW9 p1 hz
    go_wp2
    try rw [HW9.out]
    refine bodyPost_ret (v := .tuple #[.agg #[.int .i64 0, .int .i64 0], .int .i64 E]) ?_ rfl ⟨by rw [HV.out]; rfl, p3⟩
    simp [results, Try.results58, go_sem, k0, k1]
  subst h0
  obtain ⟨hm, hv⟩ := HXM.out rfl
  have HV := hid hv
  have KL := hid fun w' => most_any x w' ⟨hm.1, hm.2.1, hm.2.2.1, hm.2.2.2⟩
  obtain ⟨r, hr⟩ : ∃ r, x.hi = r := ⟨_, rfl⟩
  rw [hr] at KL HV
  unfold Wg.val rval at KL
  clear HXM HXN hv hm hr
  go_wp2_with fail
  refine (KL.out W6).mono ?_
  rintro e w3 ⟨rfl, h3⟩
  have h63 := h6.trans h3
  clear KL g0 g1 g2 g3 g4
  have hz := F4.out w3 h63
  obtain ⟨z0, z1, zf⟩ := rat_cells hz
  have p1 := rat_put hz (.int .i64 r.1) (.int .i64 r.2)
  have p3 := Ext.setCell (Ext.setCell (hx1.trans h63) (p := ⟨w.heap.size + 1, 0, none⟩) (Nat.le_succ _) (.int .i64 r.1)) (p := ⟨w.heap.size + 1, 1, none⟩) (Nat.le_succ _) (.int .i64 r.2)
  obtain ⟨W9, hW9⟩ : ∃ W9, (w3.setCell ⟨w.heap.size + 1, 0, none⟩ (.int .i64 r.1)).setCell ⟨w.heap.size + 1, 1, none⟩ (.int .i64 r.2) = W9 := ⟨_, rfl⟩
  rw [hW9] at p1 p3
  obtain ⟨k0, k1, -⟩ := rat_cells p1
  have HW9 := hid hW9
  clear hW9 p1 hz
  go_wp2
  try rw [HW9.out]
  refine bodyPost_ret (v := .tuple #[.agg #[.int .i64 r.1, .int .i64 r.2], .int .i64 0]) ?_ rfl ⟨by rw [HV.out]; rfl, p3⟩
  simp [results, Try.results58, go_sem, k0, k1]
end Go.Proofs.Ytjnobdcbbboeeaa
