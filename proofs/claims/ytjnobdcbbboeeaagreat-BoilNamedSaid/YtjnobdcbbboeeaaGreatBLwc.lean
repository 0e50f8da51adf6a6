/- The walks of the law's under and clash. Printed by my gen_blwc.py. -/
import Derived.Test.YtjnobdcbbboeeaaGreatBMade
import Derived.Test.YtjnobdcbbboeeaaGreatH3
namespace Go.Proofs.YtjnobdcbbboeeaaGreat
open Go Go.RowKit Go.Shelf
set_option linter.unusedVariables false
set_option linter.unusedSimpArgs false

theorem Bel.extw {a w1 w2 : World} {D : Nat} (x : Ext a w1) (hb : Bel D w1 w2) (hD : a.heap.size ≤ D) : Ext a w2 :=
  ((Ext.belS (S := fun k => k = D) x).trans (hb.belS rfl)).ext (fun k hk hS => by omega)
theorem lunder_any (v : Value) (h : Hs) (a b : Int) (w : World) (hr : HsR w v h) :
    Calls Tryz.prog 44 #[v, .int .i64 a, .int .i64 b] w fun e w' => e = .returned (.bool (undH h a b)) ∧ Ext w w' := by
  obtain ⟨A, c, rfl, -⟩ := hr
  unfold hval
  obtain ⟨P, hP⟩ : ∃ P, h.pk = P := ⟨_, rfl⟩
  have HU : Hid (undH h a b = ((decide (a ≤ b) && decide (b ≤ P)) || (decide (P ≤ b) && decide (b ≤ a)))) := by unfold Hid undH; rw [hP]
  rw [hP]
  clear hP
  by_cases h1 : a ≤ b
  · by_cases h2 : b ≤ P
    · have H := hid (show undH h a b = true by rw [HU.out]; simp [h1, h2])
      go_enter Tryz.func44, Tryz.ntmps44
      go_wp2
      go_ret
      exact ⟨ret_of (bool_of H.out.symm), Ext.alloc (Ext.refl w) _⟩
    · have h3 : P ≤ b := by omega
      by_cases h4 : b ≤ a
      · have H := hid (show undH h a b = true by rw [HU.out]; simp [h3, h4])
        go_enter Tryz.func44, Tryz.ntmps44
        go_wp2
        go_ret
        exact ⟨ret_of (bool_of H.out.symm), Ext.alloc (Ext.refl w) _⟩
      · have H := hid (show undH h a b = false by rw [HU.out]; simp [h2, h4])
        go_enter Tryz.func44, Tryz.ntmps44
        go_wp2
        go_ret
        exact ⟨ret_of (bool_of H.out.symm), Ext.alloc (Ext.refl w) _⟩
  · have h4 : b ≤ a := by omega
    by_cases h3 : P ≤ b
    · have H := hid (show undH h a b = true by rw [HU.out]; simp [h3, h4])
      go_enter Tryz.func44, Tryz.ntmps44
      go_wp2
      go_ret
      exact ⟨ret_of (bool_of H.out.symm), Ext.alloc (Ext.refl w) _⟩
    · have H := hid (show undH h a b = false by rw [HU.out]; simp [h1, h3])
      go_enter Tryz.func44, Tryz.ntmps44
      go_wp2
      go_ret
      exact ⟨ret_of (bool_of H.out.symm), Ext.alloc (Ext.refl w) _⟩

set_option maxRecDepth 100000 in
set_option maxHeartbeats 4000000 in
theorem lclash_any (v : Value) (h : Hs) (a b : Nat) (w : World) (hr : HsR w v h) (k : HsOK h) (ha : a < h.ws.length) (hb : b < h.ws.length) :
    Calls Tryz.prog 11 #[v, .int .i64 (a : Int), .int .i64 (b : Int)] w fun e w' => e = .returned (.bool (claL h a b)) ∧ Ext w w' := by
  obtain ⟨A, c, rfl, hrw, hcap⟩ := hr
  obtain ⟨x, hx⟩ := get_of_lt h.ws a ha
  obtain ⟨y, hy⟩ := get_of_lt h.ws b hb
  have hxa : wgAt h a = x := by unfold wgAt; rw [List.getD_eq_getElem?_getD, hx]; rfl
  have hya : wgAt h b = y := by unfold wgAt; rw [List.getD_eq_getElem?_getD, hy]; rfl
  have HV : Hid (claL h a b = (undH h x.mo y.mo && decide (y.mh * x.sh < x.ml * y.sl))) := by unfold Hid claL; rw [hxa, hya]
  have mx := k.ms x (List.mem_of_getElem? hx)
  have my := k.ms y (List.mem_of_getElem? hy)
  have p1 := mul_small (x := x.ml) (y := y.sl) (by omega) (by omega)
  have p2 := mul_small (x := y.mh) (y := x.sh) (by omega) (by omega)
  have H1 : IntKind.i64.wrap (x.ml * y.sl) = x.ml * y.sl := IntWalk.i64_in _ ⟨by omega, by omega⟩
  have H2 : IntKind.i64.wrap (y.mh * x.sh) = y.mh * x.sh := IntWalk.i64_in _ ⟨by omega, by omega⟩
  obtain ⟨N, hN⟩ : ∃ N : Nat, h.ws.length = N := ⟨_, rfl⟩
  obtain ⟨w1, hw1⟩ : ∃ w1, w.alloc (.cells #[.int .i64 h.mo, .int .i64 h.pk, .slice A h.ws.length c] 25) = w1 := ⟨_, rfl⟩
  have hx1 : Ext w w1 := by rw [← hw1]; exact Ext.alloc (Ext.refl w) _
  have b1 : w1.heap[w.heap.size]? = some (.cells #[.int .i64 h.mo, .int .i64 h.pk, .slice A h.ws.length c] 25 (0, 0)) := by rw [← hw1]; exact heap_alloc_new w _
  obtain ⟨c0, c1, c2, -⟩ := house_cells b1
  have hr1 : Wgs w1 A h.ws := Rows.ext hrw hx1
  obtain ⟨bb, off, hAA, r0, r1, r2, r3, r4⟩ := Wgs.at_ hr1 hx
  obtain ⟨bb2, off2, hAA2, s0, s1, s2, s3, s4⟩ := Wgs.at_ hr1 hy
  rw [hAA] at hAA2
  injection hAA2 with hAA2
  injection hAA2 with e1 e2
  subst e1
  subst e2
  have HRW : Hid (∀ w', Ext w1 w' → HsR w' (hval h A c) h) := fun w' hx => ⟨A, c, rfl, Rows.ext hr1 hx, hcap⟩
  have FX : Hid (∀ w', Ext w1 w' → (w'.cell? ⟨w.heap.size, 0, none⟩ = some (.int .i64 h.mo) ∧ w'.cell? ⟨w.heap.size, 1, none⟩ = some (.int .i64 h.pk) ∧ w'.cell? ⟨w.heap.size, 2, none⟩ = some (.slice A h.ws.length c)) ∧
      (w'.cell? ⟨bb, off + a * 5, none⟩ = some (.int .i64 x.mo) ∧ w'.cell? ⟨bb, off + a * 5 + 1, none⟩ = some (.int .i64 x.sl) ∧ w'.cell? ⟨bb, off + a * 5 + 2, none⟩ = some (.int .i64 x.sh) ∧ w'.cell? ⟨bb, off + a * 5 + 3, none⟩ = some (.int .i64 x.ml) ∧ w'.cell? ⟨bb, off + a * 5 + 4, none⟩ = some (.int .i64 x.mh)) ∧
      w'.cell? ⟨bb, off + b * 5, none⟩ = some (.int .i64 y.mo) ∧ w'.cell? ⟨bb, off + b * 5 + 1, none⟩ = some (.int .i64 y.sl) ∧ w'.cell? ⟨bb, off + b * 5 + 2, none⟩ = some (.int .i64 y.sh) ∧ w'.cell? ⟨bb, off + b * 5 + 3, none⟩ = some (.int .i64 y.ml) ∧ w'.cell? ⟨bb, off + b * 5 + 4, none⟩ = some (.int .i64 y.mh)) := fun w' hx =>
    ⟨⟨hx.cell c0, hx.cell c1, hx.cell c2⟩, ⟨hx.cell r0, hx.cell r1, hx.cell r2, hx.cell r3, hx.cell r4⟩, hx.cell s0, hx.cell s1, hx.cell s2, hx.cell s3, hx.cell s4⟩
  have HW1 := hid hw1
  have ha' : (a : Int) < (N : Int) := by omega
  have hb' : (b : Int) < (N : Int) := by omega
  have haN : a < N := by omega
  have hbN : b < N := by omega
  unfold hval at HRW ⊢
  rw [hN] at FX HRW HW1 ⊢
  subst hAA
  clear hw1 hrw b1 c0 c1 c2 hr1 r0 r1 r2 r3 r4 s0 s1 s2 s3 s4 hx hy hxa hya mx my p1 p2 hcap hN ha hb k
  rw [HV.out]
  obtain ⟨PV, hPV⟩ : ∃ PV, (undH h x.mo y.mo && decide (y.mh * x.sh < x.ml * y.sl)) = PV := ⟨_, rfl⟩
  rw [hPV]
  have HPV := hid hPV
  clear hPV HV
  go_enter Tryz.func11, Tryz.ntmps11
  go_upto_region 1 with fail
  rw [HW1.out]
  clear HW1
  have hq0 : Ext w1 w1.drew := Ext.drew (Ext.refl _)
  obtain ⟨w9, hw9e⟩ : ∃ w9, w1.drew = w9 := ⟨_, rfl⟩
  have hw9 : Ext w1 w9 := by rw [← hw9e]; exact hq0
  go_region_held3 (fun w' => (w'.cell? ⟨w.heap.size, 0, none⟩ = some (.int .i64 h.mo) ∧ w'.cell? ⟨w.heap.size, 1, none⟩ = some (.int .i64 h.pk) ∧ w'.cell? ⟨w.heap.size, 2, none⟩ = some (.slice (some ⟨bb, off, none⟩) N c)) ∧
      (w'.cell? ⟨bb, off + a * 5, none⟩ = some (.int .i64 x.mo) ∧ w'.cell? ⟨bb, off + a * 5 + 1, none⟩ = some (.int .i64 x.sl) ∧ w'.cell? ⟨bb, off + a * 5 + 2, none⟩ = some (.int .i64 x.sh) ∧ w'.cell? ⟨bb, off + a * 5 + 3, none⟩ = some (.int .i64 x.ml) ∧ w'.cell? ⟨bb, off + a * 5 + 4, none⟩ = some (.int .i64 x.mh)) ∧
      w'.cell? ⟨bb, off + b * 5, none⟩ = some (.int .i64 y.mo) ∧ w'.cell? ⟨bb, off + b * 5 + 1, none⟩ = some (.int .i64 y.sl) ∧ w'.cell? ⟨bb, off + b * 5 + 2, none⟩ = some (.int .i64 y.sh) ∧ w'.cell? ⟨bb, off + b * 5 + 3, none⟩ = some (.int .i64 y.ml) ∧ w'.cell? ⟨bb, off + b * 5 + 4, none⟩ = some (.int .i64 y.mh))
    (first | exact FX.out _ (Ext.drew (Ext.refl _)) | exact FX.out _ (Ext.refl _) | exact FX.out _ hw9 | exact FX.out _ (Ext.alloc hw9 _) | exact FX.out _ (Ext.alloc (Ext.alloc hw9 _) _) | (simp [go_sem, *]))
    ((fail))
  · go_upto_region 2 with fail
    obtain ⟨W2, hW2⟩ : ∃ W2, (w9.alloc (.cells #[.int .i64 x.mo, .int .i64 x.sl, .int .i64 x.sh, .int .i64 x.ml, .int .i64 x.mh] 67)).alloc (.cells #[.int .i64 y.mo, .int .i64 y.sl, .int .i64 y.sh, .int .i64 y.ml, .int .i64 y.mh] 67) = W2 := ⟨_, rfl⟩
    have hx2 : Ext w9 W2 := by rw [← hW2]; exact ((Ext.refl _).alloc _).alloc _
    have bx : W2.heap[w9.heap.size]? = some (.cells #[.int .i64 x.mo, .int .i64 x.sl, .int .i64 x.sh, .int .i64 x.ml, .int .i64 x.mh] 67 (0, 0)) := by rw [← hW2]; exact (Below.heap_alloc _ _ _ (by simp)).trans (heap_alloc_new w9 _)
    have by_ : W2.heap[w9.heap.size + 1]? = some (.cells #[.int .i64 y.mo, .int .i64 y.sl, .int .i64 y.sh, .int .i64 y.ml, .int .i64 y.mh] 67 (0, 0)) := by
      rw [← hW2]
      have q := heap_alloc_new (w9.alloc (.cells #[.int .i64 x.mo, .int .i64 x.sl, .int .i64 x.sh, .int .i64 x.ml, .int .i64 x.mh] 67)) (.cells #[.int .i64 y.mo, .int .i64 y.sl, .int .i64 y.sh, .int .i64 y.ml, .int .i64 y.mh] 67)
      rw [World.size_alloc] at q
      exact q
    try rw [hW2]
    clear hW2
    have hx12 := hw9.trans hx2
    obtain ⟨⟨d0, d1, d2⟩, -⟩ := FX.out W2 hx12
    obtain ⟨g0, g1, g2, g3, g4, -⟩ := wg_cells bx
    obtain ⟨l0, l1, l2, l3, l4, -⟩ := wg_cells by_
    have KU := hid (lunder_any _ h x.mo y.mo W2 (HRW.out W2 hx12))
    clear FX HRW bx by_
    go_wp2_with fail
    refine KU.out.mono ?_
    rintro e w3 ⟨rfl, hx3⟩
    have g1 := hx3.cell g1
    have g2 := hx3.cell g2
    have g3 := hx3.cell g3
    have g4 := hx3.cell g4
    have l1 := hx3.cell l1
    have l2 := hx3.cell l2
    have l3 := hx3.cell l3
    have l4 := hx3.cell l4
    have hE := hx1.trans (hx12.trans hx3)
    cases hu : undH h x.mo y.mo with
    | false =>
      have HQ : Hid (PV = false) := by unfold Hid; rw [← HPV.out, hu]; rfl
      clear hu KU
      go_wp2
      go_ret
      exact ⟨ret_of (bool_of (by rw [HQ.out])), hE⟩
    | true =>
      by_cases hlt : y.mh * x.sh < x.ml * y.sl
      · have HQ : Hid (PV = true) := by unfold Hid; rw [← HPV.out, hu]; simp [hlt]
        clear hu KU
        go_wp2
        go_ret
        exact ⟨ret_of (bool_of (by rw [HQ.out])), hE⟩
      · have HQ : Hid (PV = false) := by unfold Hid; rw [← HPV.out, hu]; simp [hlt]
        clear hu KU
        go_wp2
        go_ret
        exact ⟨ret_of (bool_of (by rw [HQ.out]; first | done | exact decide_eq_false (Int.not_lt.2 hlt) | exact decide_eq_false hlt)), hE⟩
  · go_upto_region 2 with fail
    obtain ⟨W2, hW2⟩ : ∃ W2, (w9.alloc (.cells #[.int .i64 y.mo, .int .i64 y.sl, .int .i64 y.sh, .int .i64 y.ml, .int .i64 y.mh] 67)).alloc (.cells #[.int .i64 x.mo, .int .i64 x.sl, .int .i64 x.sh, .int .i64 x.ml, .int .i64 x.mh] 67) = W2 := ⟨_, rfl⟩
    have hx2 : Ext w9 W2 := by rw [← hW2]; exact ((Ext.refl _).alloc _).alloc _
    have bx : W2.heap[w9.heap.size]? = some (.cells #[.int .i64 y.mo, .int .i64 y.sl, .int .i64 y.sh, .int .i64 y.ml, .int .i64 y.mh] 67 (0, 0)) := by rw [← hW2]; exact (Below.heap_alloc _ _ _ (by simp)).trans (heap_alloc_new w9 _)
    have by_ : W2.heap[w9.heap.size + 1]? = some (.cells #[.int .i64 x.mo, .int .i64 x.sl, .int .i64 x.sh, .int .i64 x.ml, .int .i64 x.mh] 67 (0, 0)) := by
      rw [← hW2]
      have q := heap_alloc_new (w9.alloc (.cells #[.int .i64 y.mo, .int .i64 y.sl, .int .i64 y.sh, .int .i64 y.ml, .int .i64 y.mh] 67)) (.cells #[.int .i64 x.mo, .int .i64 x.sl, .int .i64 x.sh, .int .i64 x.ml, .int .i64 x.mh] 67)
      rw [World.size_alloc] at q
      exact q
    try rw [hW2]
    clear hW2
    have hx12 := hw9.trans hx2
    obtain ⟨⟨d0, d1, d2⟩, -⟩ := FX.out W2 hx12
    obtain ⟨g0, g1, g2, g3, g4, -⟩ := wg_cells by_
    obtain ⟨l0, l1, l2, l3, l4, -⟩ := wg_cells bx
    have KU := hid (lunder_any _ h x.mo y.mo W2 (HRW.out W2 hx12))
    clear FX HRW bx by_
    go_wp2_with fail
    refine KU.out.mono ?_
    rintro e w3 ⟨rfl, hx3⟩
    have g1 := hx3.cell g1
    have g2 := hx3.cell g2
    have g3 := hx3.cell g3
    have g4 := hx3.cell g4
    have l1 := hx3.cell l1
    have l2 := hx3.cell l2
    have l3 := hx3.cell l3
    have l4 := hx3.cell l4
    have hE := hx1.trans (hx12.trans hx3)
    cases hu : undH h x.mo y.mo with
    | false =>
      have HQ : Hid (PV = false) := by unfold Hid; rw [← HPV.out, hu]; rfl
      clear hu KU
      go_wp2
      go_ret
      exact ⟨ret_of (bool_of (by rw [HQ.out])), hE⟩
    | true =>
      by_cases hlt : y.mh * x.sh < x.ml * y.sl
      · have HQ : Hid (PV = true) := by unfold Hid; rw [← HPV.out, hu]; simp [hlt]
        clear hu KU
        go_wp2
        go_ret
        exact ⟨ret_of (bool_of (by rw [HQ.out])), hE⟩
      · have HQ : Hid (PV = false) := by unfold Hid; rw [← HPV.out, hu]; simp [hlt]
        clear hu KU
        go_wp2
        go_ret
        exact ⟨ret_of (bool_of (by rw [HQ.out]; first | done | exact decide_eq_false (Int.not_lt.2 hlt) | exact decide_eq_false hlt)), hE⟩
end Go.Proofs.YtjnobdcbbboeeaaGreat
