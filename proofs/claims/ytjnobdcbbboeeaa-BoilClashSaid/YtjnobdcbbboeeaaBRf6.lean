/- The walk of the reference's Bounds of layer 8. Printed by my gen_brf6.py. -/
import Derived.Test.YtjnobdcbbboeeaaBRf3
import Derived.Test.YtjnobdcbbboeeaaH6
import Derived.Test.YtjnobdcbbboeeaaHa
namespace Go.Proofs.Ytjnobdcbbboeeaa
open Go Go.RowKit Go.Shelf
set_option linter.unusedVariables false
set_option linter.unusedSimpArgs false

theorem greatL_sm : ∀ (l : List Rt) (r : Rt), Rsm r → (∀ q ∈ l, Rsm q) → Rsm (greatL r l)
  | [], r, h, _ => h
  | q :: l, r, h, hl => by
    unfold greatL
    refine greatL_sm l _ ?_ fun q2 h2 => hl q2 (List.mem_cons_of_mem _ h2)
    split
    · exact hl q (List.mem_cons_self ..)
    · exact h
set_option maxRecDepth 100000 in
set_option maxHeartbeats 16000000 in
theorem refbounds_any (v : Value) (h : Hs) (m : Int) (w : World) (hr : HsR w v h) (k : HsOK h) (hm : 0 ≤ m ∧ m < h.mo) :
    Calls Try.prog 50 #[v, .int .i64 m] w fun e w' => e = .returned (.tuple #[rval (bndL h m), rval (bndU h m), .int .i64 (bndE h m)]) ∧ Ext w w' := by
  obtain ⟨A, c, rfl, hrw, hcap⟩ := hr
  obtain ⟨N, hN⟩ : ∃ N : Nat, h.ws.length = N := ⟨_, rfl⟩
  have HN := hid hN
  have HK := hid k
  have hN14 : N ≤ 14 := by have := k.len; omega
  have HREF := hid (bnd_ref k hm)
  have HWG : Hid (∀ x ∈ h.ws, WgM x) := fun x hx => wgM_of k hx
  unfold hval
  rw [hN]
  obtain ⟨W0, hW0⟩ : ∃ W0, w.alloc (.cells #[.int .i64 h.mo, .int .i64 h.pk, .slice A N c] 75) = W0 := ⟨_, rfl⟩
  obtain ⟨W1, hW1⟩ : ∃ W1, W0.alloc (.cells #[.int .i64 0, .int .i64 0] 43) = W1 := ⟨_, rfl⟩
  obtain ⟨W2, hW2⟩ : ∃ W2, W1.alloc (.cells #[.int .i64 0, .int .i64 0] 43) = W2 := ⟨_, rfl⟩
  obtain ⟨W3, hW3⟩ : ∃ W3, W2.alloc (.cells #[.int .i64 0, .int .i64 0] 43) = W3 := ⟨_, rfl⟩
  obtain ⟨W4, hW4⟩ : ∃ W4, W3.alloc (.cells #[.int .i64 0, .int .i64 0] 43) = W4 := ⟨_, rfl⟩
  have hx0 : Ext w W0 := by rw [← hW0]; exact Ext.alloc (Ext.refl w) _
  have hx01 : Ext W0 W1 := by rw [← hW1]; exact Ext.alloc (Ext.refl _) _
  have hx12 : Ext W1 W2 := by rw [← hW2]; exact Ext.alloc (Ext.refl _) _
  have hx23 : Ext W2 W3 := by rw [← hW3]; exact Ext.alloc (Ext.refl _) _
  have hx34 : Ext W3 W4 := by rw [← hW4]; exact Ext.alloc (Ext.refl _) _
  have s0 : W0.heap.size = w.heap.size + 1 := by rw [← hW0]; simp
  have s1 : W1.heap.size = w.heap.size + 1 + 1 := by rw [← hW1]; simp [s0]
  have s2 : W2.heap.size = w.heap.size + 1 + 1 + 1 := by rw [← hW2]; simp [s1]
  have s3 : W3.heap.size = W2.heap.size + 1 := by rw [← hW3]; simp
  have s4 : W4.heap.size = W2.heap.size + 1 + 1 := by rw [← hW4]; simp [s3]
  have hx2 : Ext w W2 := hx0.trans (hx01.trans hx12)
  have hx24 : Ext W2 W4 := hx23.trans hx34
  have b0 : W2.heap[w.heap.size]? = some (.cells #[.int .i64 h.mo, .int .i64 h.pk, .slice A N c] 75 (0, 0)) := (Below.block (hx01.trans hx12) _ (by omega)).trans (by rw [← hW0]; exact heap_alloc_new w _)
  have b4 : W2.heap[w.heap.size + 1]? = some (.cells #[.int .i64 0, .int .i64 0] 43 (0, 0)) := (Below.block hx12 _ (by omega)).trans (by rw [← hW1, ← s0]; exact heap_alloc_new W0 _)
  have b5 : W2.heap[w.heap.size + 1 + 1]? = some (.cells #[.int .i64 0, .int .i64 0] 43 (0, 0)) := by rw [← hW2, ← s1]; exact heap_alloc_new W1 _
  have b7 : W4.heap[W2.heap.size]? = some (.cells #[.int .i64 0, .int .i64 0] 43 (0, 0)) := (Below.block hx34 _ (by omega)).trans (by rw [← hW3]; exact heap_alloc_new W2 _)
  have b8 : W4.heap[W2.heap.size + 1]? = some (.cells #[.int .i64 0, .int .i64 0] 43 (0, 0)) := by rw [← hW4, ← s3]; exact heap_alloc_new W3 _
  obtain ⟨B7, hB7⟩ : ∃ B7, W2.heap.size = B7 := ⟨_, rfl⟩
  have hn1 : ¬ B7 = w.heap.size + 1 := by omega
  have hn2 : ¬ B7 = w.heap.size + 1 + 1 := by omega
  have hn3 : ¬ B7 + 1 = w.heap.size + 1 := by omega
  have hn4 : ¬ B7 + 1 = w.heap.size + 1 + 1 := by omega
  have FH : Hid (∀ w', Ext W2 w' → w'.cell? ⟨w.heap.size, 0, none⟩ = some (.int .i64 h.mo) ∧ w'.cell? ⟨w.heap.size, 1, none⟩ = some (.int .i64 h.pk) ∧ w'.cell? ⟨w.heap.size, 2, none⟩ = some (.slice A N c)) := fun w' hx => by
    obtain ⟨q0, q1, q2, -⟩ := rhouse_cells b0
    exact ⟨hx.cell q0, hx.cell q1, hx.cell q2⟩
  have F4 : Hid (∀ w', Ext W2 w' → w'.heap[w.heap.size + 1]? = some (.cells #[.int .i64 0, .int .i64 0] 43 (0, 0))) := fun w' hx => (Below.block hx _ (by omega)).trans b4
  have F5 : Hid (∀ w', Ext W2 w' → w'.heap[w.heap.size + 1 + 1]? = some (.cells #[.int .i64 0, .int .i64 0] 43 (0, 0))) := fun w' hx => (Below.block hx _ (by omega)).trans b5
  have HR : Hid (∀ w', Ext W2 w' → HsR w' (.agg #[.int .i64 h.mo, .int .i64 h.pk, .slice A N c]) h) := fun w' hx => ⟨A, c, by unfold hval; rw [hN], Rows.ext hrw (hx2.trans hx), hcap⟩
  have HRW : Hid (∀ w', Ext W2 w' → Wgs w' A h.ws) := fun w' hx => Rows.ext hrw (hx2.trans hx)
  have KU : Hid (∀ a b w', Ext W2 w' → _) := fun a b w' hx => refunder_any _ h a b w' (HR.out w' hx)
  have KN : Hid (∀ w', Ext W2 w' → Calls Try.prog 92 #[.agg #[.int .i64 h.mo, .int .i64 h.pk, .slice A N c]] w' fun e w2 => ∃ B, e = .returned (.slice (some ⟨B, 0, none⟩) N N) ∧ w'.heap.size ≤ B ∧ Brow w2 B (rl N fun _ => false) ∧ Ext w' w2) := fun w' hx => by
    have q := refnone_any _ h w' (HR.out w' hx) (by rw [HN.out]; omega)
    rw [HN.out] at q; exact q
  have KA : Hid (∀ B w', Ext W2 w' → Brow w' B (rl N fun _ => false) → Calls Try.prog 95 #[.agg #[.int .i64 h.mo, .int .i64 h.pk, .slice A N c], .slice (some ⟨B, 0, none⟩) N N] w' fun e w2 => e = .returned (.bool (agrH h)) ∧ Ext w' w2) := fun B w' hx hb => by
    have q := refagree_any _ h (some ⟨B, 0, none⟩) N (fun _ => false) w' (HR.out w' hx) (by rw [HN.out]; exact hb.bools) HWG.out (by rw [HN.out]; omega)
    rw [agrG_none, HN.out] at q; exact q
  obtain ⟨lo0, hlo0⟩ : ∃ x, bndL h m = x := ⟨_, rfl⟩
  obtain ⟨hi0, hhi0⟩ : ∃ x, bndU h m = x := ⟨_, rfl⟩
  obtain ⟨E, hE⟩ : ∃ x, bndE h m = x := ⟨_, rfl⟩
  obtain ⟨G, hG⟩ : ∃ x, agrH h = x := ⟨_, rfl⟩
  rw [hlo0, hhi0, hE, hG] at HREF
  rw [hG] at KA
  rw [hlo0, hhi0, hE]
  have HW0 := hid hW0
  have HW1 := hid hW1
  have HW2 := hid hW2
  have HW3 := hid hW3
  have HW4 := hid hW4
  have HS0 := hid s0
  have HS1 := hid s1
  have HS3 := hid s3
  have HB7 := hid hB7
  have HB7b : Hid (w.heap.size + 1 + 1 + 1 = B7) := by unfold Hid; omega
  rw [hB7] at b7 b8
  clear hlo0 hhi0 hE hG hW0 hW1 hW2 hW3 hW4 b0 b4 b5 hx0 hx01 hx12 hx23 hx34 s0 s1 s3 s2 s4 hB7 hN hrw hcap k hm
  go_enter Try.func50, Try.ntmps50
  go_upto_region 1 with fail
  rw [HW0.out, HW1.out, HW2.out]
  try rw [HS0.out]
  try rw [HS1.out]
  try rw [HS0.out]
  clear HW0 HW1 HW2 HS0 HS1
  go_upto_region 2 with fail
  rw [HW3.out, HW4.out]
  try rw [HS3.out]
  clear HW3 HW4 HS3
  try rw [HB7.out]
  try rw [HB7b.out]
  clear HB7b
  refine wp_region_shut Ext (fun w' => Ext W4 w') (fun
    | 2 => some (fun v w' => ∃ B, v = .slice (some ⟨B, 0, none⟩) N N ∧ Brow w' B (rl N fun _ => false))
    | 3 => some (fun v _ => v = .bool G)
    | _ => none) (by kernel_rfl) (by kernel_rfl) (fun _ _ h k => h.trans k) ?hTn (Ext.drew (Ext.refl W4)) ?_
  case hTn =>
    intro i R hR
    match i, hR with
    | 2, hR => cases hR; exact fun v _ _ h hx => by obtain ⟨B, e, hb⟩ := h; exact ⟨B, e, hb.ext hx⟩
    | 3, hR => cases hR; exact fun _ _ _ h _ => h
  refine wM_val ?un0 rfl rfl Ext.refl (fun w' hD => ?hn0) (fun phn0 => ?nn0)
  case hn0 =>
    obtain ⟨c0, c1, c2⟩ := FH.out w' (hx24.trans hD.1)
    go_simp; rfl
  simp only [Act.put, List.setIfInBounds_toArray, List.set_cons_succ, List.set_cons_zero, Nat.reduceAdd]
  refine wM_val ?un1 rfl rfl Ext.refl (fun w' hD => ?hn1) (fun phn1 => ?nn1)
  case hn1 =>
    obtain ⟨c0, c1, c2⟩ := FH.out w' (hx24.trans hD.1)
    go_simp; rfl
  simp only [Act.put, List.setIfInBounds_toArray, List.set_cons_succ, List.set_cons_zero, Nat.reduceAdd]
  refine wM_op _ rfl rfl (opens_call ?fn2 ?gn2 (fun w' hD => ?hn2) (fun w' hD => ?cn2)) (fun v2 hv2 => ?nn2)
  case hn2 => go_simp; constructor <;> rfl
  case cn2 =>
    refine (KN.out w' (hx24.trans hD.1)).mono ?_
    rintro e w2 ⟨B, rfl, -, hb, hx⟩
    exact ⟨_, rfl, hx, B, rfl, hb⟩
  obtain ⟨_, -, -, B, rfl, -⟩ := hv2
  simp only [Act.put, List.setIfInBounds_toArray, List.set_cons_succ, List.set_cons_zero, Nat.reduceAdd]
  refine wM_op _ rfl rfl (opens_call ?fn3 ?gn3 (fun w' hD => ?hn3) (fun w' hD => ?cn3)) (fun v3 hv3 => ?nn3)
  case hn3 => go_simp; constructor <;> rfl
  case cn3 =>
    obtain ⟨-, B2, e2, hb2⟩ := hD.get 2 (by first | kernel_rfl | simp [Region.binds])
    cases e2
    refine (KA.out _ w' (hx24.trans hD.1) hb2).mono ?_
    rintro e w2 ⟨rfl, hx⟩
    exact ⟨_, rfl, hx, rfl⟩
  obtain ⟨_, -, -, rfl⟩ := hv3
  simp only [Act.put, List.setIfInBounds_toArray, List.set_cons_succ, List.set_cons_zero, Nat.reduceAdd]
  refine wM_val ?un4 rfl rfl Ext.refl (fun w' hD => ?hn4) (fun phn4 => ?nn4)
  case hn4 =>
    obtain ⟨c0, c1, c2⟩ := FH.out w' (hx24.trans hD.1)
    go_simp; rfl
  simp only [Act.put, List.setIfInBounds_toArray, List.set_cons_succ, List.set_cons_zero, Nat.reduceAdd]
  refine wM_nil ?_
  intro w9 hw9 hF9
  clear hF9 KN KA
  cases G with
  | false =>
    obtain ⟨rfl, rfl, rfl⟩ := HREF.out.1 rfl
    have hz7 := (Below.block hw9 _ (Array.getElem?_eq_some_iff.1 b7).1).trans b7
    have hz8 := (Below.block hw9 _ (Array.getElem?_eq_some_iff.1 b8).1).trans b8
    obtain ⟨e0, e1, -⟩ := rat_cells hz7
    obtain ⟨f0, f1, -⟩ := rat_cells hz8
    clear hz7 hz8 b7 b8 HREF
    have hb4 := F4.out w9 (hx24.trans hw9)
    have hb5 := F5.out w9 (hx24.trans hw9)
    obtain ⟨z0, z1, zf⟩ := rat_cells hb4
    obtain ⟨d0, d1, df⟩ := rat_cells hb5
    obtain ⟨p1, p2, p3⟩ := rat_put2 hb4 hb5 (by omega) (hx2.trans (hx24.trans hw9)) (Nat.le_succ _) (by omega) (.int .i64 0) (.int .i64 0) (.int .i64 0) (.int .i64 0)
    obtain ⟨W9, hW9⟩ : ∃ W9, ((((w9.setCell ⟨w.heap.size + 1, 0, none⟩ (.int .i64 0)).setCell ⟨w.heap.size + 1, 1, none⟩ (.int .i64 0)).setCell ⟨w.heap.size + 1 + 1, 0, none⟩ (.int .i64 0)).setCell ⟨w.heap.size + 1 + 1, 1, none⟩ (.int .i64 0)).drew = W9 := ⟨_, rfl⟩
    have q1 : W9.heap[w.heap.size + 1]? = some (.cells #[.int .i64 0, .int .i64 0] 43 (0, 0)) := by rw [← hW9]; exact p1
    have q2 : W9.heap[w.heap.size + 1 + 1]? = some (.cells #[.int .i64 0, .int .i64 0] 43 (0, 0)) := by rw [← hW9]; exact p2
    have q3 : Ext w W9 := by rw [← hW9]; exact Ext.drew p3
    obtain ⟨k0, k1, -⟩ := rat_cells q1
    obtain ⟨l0, l1, -⟩ := rat_cells q2
    clear p1 p2 p3 q1 q2 hb4 hb5
    go_wp2
    go_region
    go_wp2
    try rw [hW9]
    refine bodyPost_ret (v := .tuple #[.agg #[.int .i64 0, .int .i64 0], .agg #[.int .i64 0, .int .i64 0], .int .i64 7]) ?_ rfl ⟨by skip; rfl, q3⟩
    simp [results, Try.results50, go_sem, k0, k1, l0, l1]
  | true =>
    have b7 := (Below.block hw9 _ (Array.getElem?_eq_some_iff.1 b7).1).trans b7
    have b8 := (Below.block hw9 _ (Array.getElem?_eq_some_iff.1 b8).1).trans b8
    have hx9 := hx24.trans hw9
    obtain ⟨c0, c1, c2⟩ := FH.out w9 hx9
    clear hx24 hw9
    go_wp2
    clear c0 c1 c2
    go_loopw [9, 10, 11] (fun s9 s10 i wr => ∃ (k : Nat) (lo hi : Rt) (bl bh : Bool), k ≤ N ∧ i = .int .i64 (k : Int) ∧ s9 = .bool bl ∧ s10 = .bool bh ∧ Hid (gstO (lowsK h m k) = if bl = true then some lo else none) ∧ Hid (lstO (upsK h m k) = if bh = true then some hi else none) ∧ Rsm lo ∧ Rsm hi ∧ wr.heap[B7]? = some (.cells #[.int .i64 lo.1, .int .i64 lo.2] 43 (0, 0)) ∧ wr.heap[B7 + 1]? = some (.cells #[.int .i64 hi.1, .int .i64 hi.2] 43 (0, 0)) ∧ Ext W2 wr) (fun _ _ i _ => N - (intOf i).toNat)
    case atStart => exact ⟨0, (0, 0), (0, 0), false, false, Nat.zero_le _, rfl, rfl, rfl, rfl, rfl, by unfold Rsm; decide, by unfold Rsm; decide, b7, b8, hx9⟩
    case round =>
      obtain ⟨k, lo, hi, bl, bh, hk, rfl, rfl, rfl, HG0, HL0, hlo, hhi, h7, h8, hx⟩ := hrel
      obtain ⟨c0, c1, c2⟩ := FH.out wr hx
      by_cases hlt : k < N
      · have hlt' : (k : Int) < (N : Int) := by omega
        obtain ⟨x, hxk⟩ := get_of_lt h.ws k (by rw [HN.out]; exact hlt)
        have hmx := HWG.out x (List.mem_of_getElem? hxk)
        have HSM := hid (wgM_sm hmx).2
        have KL := hid fun w' => refleast_any x w' hmx
        have KM := hid fun w' => refmost_any x w' hmx
        unfold Wg.val rval at KL KM
        have HSL : Hid (gstO (lowsK h m (k + 1)) = if undH h x.mo m = true then (if bl = true then some (if abv x.lo lo = true then x.lo else lo) else some x.lo) else (if bl = true then some lo else none)) := by
          unfold Hid
          rw [lowsK_next hxk]
          have hg := HG0.out
          cases undH h x.mo m
          · simp only [Bool.false_eq_true, if_false, List.append_nil]; exact hg
          · simp only [if_true, gstO_app, hg]
            cases bl <;> rfl
        have HSU : Hid (lstO (upsK h m (k + 1)) = if undH h m x.mo = true then (if bh = true then some (if abv hi x.hi = true then x.hi else hi) else some x.hi) else (if bh = true then some hi else none)) := by
          unfold Hid
          rw [upsK_next hxk]
          have hg := HL0.out
          cases undH h m x.mo
          · simp only [Bool.false_eq_true, if_false, List.append_nil]; exact hg
          · simp only [if_true, lstO_app, hg]
            cases bh <;> rfl
        obtain ⟨b, off, e1, g0, g1, g2, g3, g4⟩ := Wgs.at_ (HRW.out wr hx) hxk
        subst e1
        clear hxk hmx HG0 HL0
        go_upto_region 9 with fail
        obtain ⟨V6, hV6⟩ : ∃ V6, wr.alloc (.cells #[.int .i64 x.mo, .int .i64 x.sl, .int .i64 x.sh, .int .i64 x.ml, .int .i64 x.mh] 92) = V6 := ⟨_, rfl⟩
        have hx6 : Ext wr V6 := by rw [← hV6]; exact (Ext.refl _).alloc _
        have bx : V6.heap[wr.heap.size]? = some (.cells #[.int .i64 x.mo, .int .i64 x.sl, .int .i64 x.sh, .int .i64 x.ml, .int .i64 x.mh] 92 (0, 0)) := by rw [← hV6]; exact heap_alloc_new wr _
        try rw [hV6]
        obtain ⟨BX, hBX⟩ : ∃ b, wr.heap.size = b := ⟨_, rfl⟩
        have hl7 := (Array.getElem?_eq_some_iff.1 h7).1
        have hl8 := (Array.getElem?_eq_some_iff.1 h8).1
        rw [hBX] at bx hl7 hl8
        try rw [hBX]
        have h7 := (Below.block hx6 _ (Array.getElem?_eq_some_iff.1 h7).1).trans h7
        have h8 := (Below.block hx6 _ (Array.getElem?_eq_some_iff.1 h8).1).trans h8
        have hlt7 := (Array.getElem?_eq_some_iff.1 h7).1
        have hlt8 := (Array.getElem?_eq_some_iff.1 h8).1
        have hltx := (Array.getElem?_eq_some_iff.1 bx).1
        have hv := hx.trans hx6
        clear hV6 c0 c1 c2 g0 g1 g2 g3 g4 hx6 hx hBX
        have FX : Hid (∀ w', Ext V6 w' → (w'.cell? ⟨w.heap.size, 0, none⟩ = some (.int .i64 h.mo) ∧ w'.cell? ⟨w.heap.size, 1, none⟩ = some (.int .i64 h.pk) ∧ w'.cell? ⟨w.heap.size, 2, none⟩ = some (.slice (some ⟨b, off, none⟩) N c)) ∧ (w'.cell? ⟨BX, 0, none⟩ = some (.int .i64 x.mo) ∧ w'.cell? ⟨BX, 1, none⟩ = some (.int .i64 x.sl) ∧ w'.cell? ⟨BX, 2, none⟩ = some (.int .i64 x.sh) ∧ w'.cell? ⟨BX, 3, none⟩ = some (.int .i64 x.ml) ∧ w'.cell? ⟨BX, 4, none⟩ = some (.int .i64 x.mh)) ∧ w'.cell? ⟨B7, 0, none⟩ = some (.int .i64 lo.1) ∧ w'.cell? ⟨B7, 1, none⟩ = some (.int .i64 lo.2) ∧ w'.cell? ⟨B7 + 1, 0, none⟩ = some (.int .i64 hi.1) ∧ w'.cell? ⟨B7 + 1, 1, none⟩ = some (.int .i64 hi.2)) := fun w' hw => by
          have hc := fun i u hu => hw.cell (rblk_cells (xs := [.int .i64 x.mo, .int .i64 x.sl, .int .i64 x.sh, .int .i64 x.ml, .int .i64 x.mh]) bx i u hu)
          obtain ⟨q0, q1, -⟩ := rat_cells h7
          obtain ⟨r0, r1, -⟩ := rat_cells h8
          exact ⟨FH.out w' (hv.trans hw), ⟨hc 0 _ rfl, hc 1 _ rfl, hc 2 _ rfl, hc 3 _ rfl, hc 4 _ rfl⟩, hw.cell q0, hw.cell q1, hw.cell r0, hw.cell r1⟩
        have KU1 : Hid (∀ w', Ext V6 w' → _) := fun w' hw => KU.out x.mo m w' (hv.trans hw)
        obtain ⟨U1, hU1⟩ : ∃ b, undH h x.mo m = b := ⟨_, rfl⟩
        rw [hU1] at KU1 HSL
        clear hU1
        cases U1 with
        | false =>
          refine wp_region_shut Ext (fun w' => Ext V6 w') (fun
            | 4 => some (fun v _ => v = .bool false)
            | _ => none) (by kernel_rfl) (by kernel_rfl) (fun _ _ h k => h.trans k) ?hTfa (Ext.drew (Ext.refl V6)) ?_
          case hTfa =>
            intro i R hR
            match i, hR with
            | 4, hR => cases hR; exact fun _ _ _ h _ => h
          refine wM_val ?ufa0 rfl rfl Ext.refl (fun w' hD => ?hfa0) (fun phfa0 => ?nfa0)
          case hfa0 =>
            obtain ⟨⟨c0, c1, c2⟩, ⟨g0, g1, g2, g3, g4⟩, l0, l1, m0, m1⟩ := FX.out w' hD.1
            go_simp; rfl
          simp only [Act.put, List.setIfInBounds_toArray, List.set_cons_succ, List.set_cons_zero, Nat.reduceAdd]
          refine wM_val ?ufa1 rfl rfl Ext.refl (fun w' hD => ?hfa1) (fun phfa1 => ?nfa1)
          case hfa1 =>
            obtain ⟨⟨c0, c1, c2⟩, ⟨g0, g1, g2, g3, g4⟩, l0, l1, m0, m1⟩ := FX.out w' hD.1
            go_simp; rfl
          simp only [Act.put, List.setIfInBounds_toArray, List.set_cons_succ, List.set_cons_zero, Nat.reduceAdd]
          refine wM_val ?ufa2 rfl rfl Ext.refl (fun w' hD => ?hfa2) (fun phfa2 => ?nfa2)
          case hfa2 =>
            obtain ⟨⟨c0, c1, c2⟩, ⟨g0, g1, g2, g3, g4⟩, l0, l1, m0, m1⟩ := FX.out w' hD.1
            go_simp; rfl
          simp only [Act.put, List.setIfInBounds_toArray, List.set_cons_succ, List.set_cons_zero, Nat.reduceAdd]
          refine wM_val ?ufa3 rfl rfl Ext.refl (fun w' hD => ?hfa3) (fun phfa3 => ?nfa3)
          case hfa3 =>
            obtain ⟨⟨c0, c1, c2⟩, ⟨g0, g1, g2, g3, g4⟩, l0, l1, m0, m1⟩ := FX.out w' hD.1
            go_simp; rfl
          simp only [Act.put, List.setIfInBounds_toArray, List.set_cons_succ, List.set_cons_zero, Nat.reduceAdd]
          refine wM_op _ rfl rfl (opens_call ?ffa4 ?gfa4 (fun w' hD => ?hfa4) (fun w' hD => ?cfa4)) (fun v4 hv4 => ?nfa4)
          case hfa4 => go_simp; constructor <;> rfl
          case cfa4 =>
            refine (KU1.out w' hD.1).mono ?_
            rintro e w2 ⟨rfl, hb⟩
            exact ⟨_, rfl, hb, rfl⟩
          obtain ⟨_, -, -, rfl⟩ := hv4
          simp only [Act.put, List.setIfInBounds_toArray, List.set_cons_succ, List.set_cons_zero, Nat.reduceAdd]
          refine wM_val ?ufa5 rfl rfl Ext.refl (fun w' hD => ?hfa5) (fun phfa5 => ?nfa5)
          case hfa5 =>
            obtain ⟨⟨c0, c1, c2⟩, ⟨g0, g1, g2, g3, g4⟩, l0, l1, m0, m1⟩ := FX.out w' hD.1
            go_simp; rfl
          simp only [Act.put, List.setIfInBounds_toArray, List.set_cons_succ, List.set_cons_zero, Nat.reduceAdd]
          refine wM_skip rfl ?_
          simp only [Act.put, List.setIfInBounds_toArray, List.set_cons_succ, List.set_cons_zero, Nat.reduceAdd]
          refine wM_skip rfl ?_
          simp only [Act.put, List.setIfInBounds_toArray, List.set_cons_succ, List.set_cons_zero, Nat.reduceAdd]
          refine wM_skip rfl ?_
          simp only [Act.put, List.setIfInBounds_toArray, List.set_cons_succ, List.set_cons_zero, Nat.reduceAdd]
          refine wM_skip rfl ?_
          simp only [Act.put, List.setIfInBounds_toArray, List.set_cons_succ, List.set_cons_zero, Nat.reduceAdd]
          refine wM_skip rfl ?_
          simp only [Act.put, List.setIfInBounds_toArray, List.set_cons_succ, List.set_cons_zero, Nat.reduceAdd]
          refine wM_skip rfl ?_
          simp only [Act.put, List.setIfInBounds_toArray, List.set_cons_succ, List.set_cons_zero, Nat.reduceAdd]
          refine wM_skip rfl ?_
          simp only [Act.put, List.setIfInBounds_toArray, List.set_cons_succ, List.set_cons_zero, Nat.reduceAdd]
          refine wM_skip rfl ?_
          simp only [Act.put, List.setIfInBounds_toArray, List.set_cons_succ, List.set_cons_zero, Nat.reduceAdd]
          refine wM_val ?ufa14 rfl rfl Ext.refl (fun w' hD => ?hfa14) (fun phfa14 => ?nfa14)
          case hfa14 =>
            obtain ⟨⟨c0, c1, c2⟩, ⟨g0, g1, g2, g3, g4⟩, l0, l1, m0, m1⟩ := FX.out w' hD.1
            go_simp; rfl
          simp only [Act.put, List.setIfInBounds_toArray, List.set_cons_succ, List.set_cons_zero, Nat.reduceAdd]
          refine wM_nil ?_
          intro w9 hw9 hF9
          clear hF9
          have HGA : Hid (gstO (lowsK h m (k + 1)) = if bl = true then some lo else none) := HSL.out
          have h7 := (Below.block hw9 _ hlt7).trans h7
          have h8 := (Below.block hw9 _ hlt8).trans h8
          have bx := (Below.block hw9 _ hltx).trans bx
          have hv8 := hv.trans hw9
          obtain ⟨V8, hV8⟩ : ∃ V : World, V = w9 := ⟨_, rfl⟩
          subst hV8
          clear hlt7 hlt8 hltx hv FX KU1 HSL
          have hlt7 := (Array.getElem?_eq_some_iff.1 h7).1
          have hlt8 := (Array.getElem?_eq_some_iff.1 h8).1
          obtain ⟨V9, hV9⟩ : ∃ V : World, V = V8 := ⟨_, rfl⟩
          subst hV9
          have hv := hv8
          have FX : Hid (∀ w', Ext V9 w' → (w'.cell? ⟨w.heap.size, 0, none⟩ = some (.int .i64 h.mo) ∧ w'.cell? ⟨w.heap.size, 1, none⟩ = some (.int .i64 h.pk) ∧ w'.cell? ⟨w.heap.size, 2, none⟩ = some (.slice (some ⟨b, off, none⟩) N c)) ∧ (w'.cell? ⟨BX, 0, none⟩ = some (.int .i64 x.mo) ∧ w'.cell? ⟨BX, 1, none⟩ = some (.int .i64 x.sl) ∧ w'.cell? ⟨BX, 2, none⟩ = some (.int .i64 x.sh) ∧ w'.cell? ⟨BX, 3, none⟩ = some (.int .i64 x.ml) ∧ w'.cell? ⟨BX, 4, none⟩ = some (.int .i64 x.mh)) ∧ w'.cell? ⟨B7, 0, none⟩ = some (.int .i64 lo.1) ∧ w'.cell? ⟨B7, 1, none⟩ = some (.int .i64 lo.2) ∧ w'.cell? ⟨B7 + 1, 0, none⟩ = some (.int .i64 hi.1) ∧ w'.cell? ⟨B7 + 1, 1, none⟩ = some (.int .i64 hi.2)) := fun w' hw => by
            have hc := fun i u hu => hw.cell (rblk_cells (xs := [.int .i64 x.mo, .int .i64 x.sl, .int .i64 x.sh, .int .i64 x.ml, .int .i64 x.mh]) bx i u hu)
            obtain ⟨q0, q1, -⟩ := rat_cells h7
            obtain ⟨r0, r1, -⟩ := rat_cells h8
            exact ⟨FH.out w' (hv.trans hw), ⟨hc 0 _ rfl, hc 1 _ rfl, hc 2 _ rfl, hc 3 _ rfl, hc 4 _ rfl⟩, hw.cell q0, hw.cell q1, hw.cell r0, hw.cell r1⟩
          have KU2 : Hid (∀ w', Ext V9 w' → _) := fun w' hw => KU.out m x.mo w' (hv.trans hw)
          obtain ⟨U2, hU2⟩ : ∃ b, undH h m x.mo = b := ⟨_, rfl⟩
          rw [hU2] at KU2 HSU
          clear hU2
          go_upto_region 11 with fail
          cases U2 with
          | false =>
            refine wp_region_shut Ext (fun w' => Ext V9 w') (fun
              | 4 => some (fun v _ => v = .bool false)
              | _ => none) (by kernel_rfl) (by kernel_rfl) (fun _ _ h k => h.trans k) ?hTs1a (Ext.drew (Ext.refl V9)) ?_
            case hTs1a =>
              intro i R hR
              match i, hR with
              | 4, hR => cases hR; exact fun _ _ _ h _ => h
            refine wM_val ?us1a0 rfl rfl Ext.refl (fun w' hD => ?hs1a0) (fun phs1a0 => ?ns1a0)
            case hs1a0 =>
              obtain ⟨⟨c0, c1, c2⟩, ⟨g0, g1, g2, g3, g4⟩, l0, l1, m0, m1⟩ := FX.out w' hD.1
              go_simp; rfl
            simp only [Act.put, List.setIfInBounds_toArray, List.set_cons_succ, List.set_cons_zero, Nat.reduceAdd]
            refine wM_val ?us1a1 rfl rfl Ext.refl (fun w' hD => ?hs1a1) (fun phs1a1 => ?ns1a1)
            case hs1a1 =>
              obtain ⟨⟨c0, c1, c2⟩, ⟨g0, g1, g2, g3, g4⟩, l0, l1, m0, m1⟩ := FX.out w' hD.1
              go_simp; rfl
            simp only [Act.put, List.setIfInBounds_toArray, List.set_cons_succ, List.set_cons_zero, Nat.reduceAdd]
            refine wM_val ?us1a2 rfl rfl Ext.refl (fun w' hD => ?hs1a2) (fun phs1a2 => ?ns1a2)
            case hs1a2 =>
              obtain ⟨⟨c0, c1, c2⟩, ⟨g0, g1, g2, g3, g4⟩, l0, l1, m0, m1⟩ := FX.out w' hD.1
              go_simp; rfl
            simp only [Act.put, List.setIfInBounds_toArray, List.set_cons_succ, List.set_cons_zero, Nat.reduceAdd]
            refine wM_val ?us1a3 rfl rfl Ext.refl (fun w' hD => ?hs1a3) (fun phs1a3 => ?ns1a3)
            case hs1a3 =>
              obtain ⟨⟨c0, c1, c2⟩, ⟨g0, g1, g2, g3, g4⟩, l0, l1, m0, m1⟩ := FX.out w' hD.1
              go_simp; rfl
            simp only [Act.put, List.setIfInBounds_toArray, List.set_cons_succ, List.set_cons_zero, Nat.reduceAdd]
            refine wM_op _ rfl rfl (opens_call ?fs1a4 ?gs1a4 (fun w' hD => ?hs1a4) (fun w' hD => ?cs1a4)) (fun v4 hv4 => ?ns1a4)
            case hs1a4 => go_simp; constructor <;> rfl
            case cs1a4 =>
              refine (KU2.out w' hD.1).mono ?_
              rintro e w2 ⟨rfl, hb⟩
              exact ⟨_, rfl, hb, rfl⟩
            obtain ⟨_, -, -, rfl⟩ := hv4
            simp only [Act.put, List.setIfInBounds_toArray, List.set_cons_succ, List.set_cons_zero, Nat.reduceAdd]
            refine wM_val ?us1a5 rfl rfl Ext.refl (fun w' hD => ?hs1a5) (fun phs1a5 => ?ns1a5)
            case hs1a5 =>
              obtain ⟨⟨c0, c1, c2⟩, ⟨g0, g1, g2, g3, g4⟩, l0, l1, m0, m1⟩ := FX.out w' hD.1
              go_simp; rfl
            simp only [Act.put, List.setIfInBounds_toArray, List.set_cons_succ, List.set_cons_zero, Nat.reduceAdd]
            refine wM_skip rfl ?_
            simp only [Act.put, List.setIfInBounds_toArray, List.set_cons_succ, List.set_cons_zero, Nat.reduceAdd]
            refine wM_skip rfl ?_
            simp only [Act.put, List.setIfInBounds_toArray, List.set_cons_succ, List.set_cons_zero, Nat.reduceAdd]
            refine wM_skip rfl ?_
            simp only [Act.put, List.setIfInBounds_toArray, List.set_cons_succ, List.set_cons_zero, Nat.reduceAdd]
            refine wM_skip rfl ?_
            simp only [Act.put, List.setIfInBounds_toArray, List.set_cons_succ, List.set_cons_zero, Nat.reduceAdd]
            refine wM_skip rfl ?_
            simp only [Act.put, List.setIfInBounds_toArray, List.set_cons_succ, List.set_cons_zero, Nat.reduceAdd]
            refine wM_skip rfl ?_
            simp only [Act.put, List.setIfInBounds_toArray, List.set_cons_succ, List.set_cons_zero, Nat.reduceAdd]
            refine wM_skip rfl ?_
            simp only [Act.put, List.setIfInBounds_toArray, List.set_cons_succ, List.set_cons_zero, Nat.reduceAdd]
            refine wM_skip rfl ?_
            simp only [Act.put, List.setIfInBounds_toArray, List.set_cons_succ, List.set_cons_zero, Nat.reduceAdd]
            refine wM_val ?us1a14 rfl rfl Ext.refl (fun w' hD => ?hs1a14) (fun phs1a14 => ?ns1a14)
            case hs1a14 =>
              obtain ⟨⟨c0, c1, c2⟩, ⟨g0, g1, g2, g3, g4⟩, l0, l1, m0, m1⟩ := FX.out w' hD.1
              go_simp; rfl
            simp only [Act.put, List.setIfInBounds_toArray, List.set_cons_succ, List.set_cons_zero, Nat.reduceAdd]
            refine wM_nil ?_
            intro w9 hw9 hF9
            clear hF9
            have HLA : Hid (lstO (upsK h m (k + 1)) = if bh = true then some hi else none) := HSU.out
            have h7 := (Below.block hw9 _ hlt7).trans h7
            have h8 := (Below.block hw9 _ hlt8).trans h8
            have hv := hv.trans hw9
            clear FX KU2 HSU bx
            go_wp2
            go_roundw
            case rel => exact ⟨k + 1, lo, hi, bl, bh, by omega, by go_num, rfl, rfl, HGA, HLA, hlo, hhi, h7, h8, hv⟩
            case measure => simp [intOf]; omega
          | true =>
            cases bh with
            | false =>
              refine wp_region_shut Ext (fun w' => Ext V9 w') (fun
                | 4 => some (fun v _ => v = .bool true)
                | _ => none) (by kernel_rfl) (by kernel_rfl) (fun _ _ h k => h.trans k) ?hTs1b (Ext.drew (Ext.refl V9)) ?_
              case hTs1b =>
                intro i R hR
                match i, hR with
                | 4, hR => cases hR; exact fun _ _ _ h _ => h
              refine wM_val ?us1b0 rfl rfl Ext.refl (fun w' hD => ?hs1b0) (fun phs1b0 => ?ns1b0)
              case hs1b0 =>
                obtain ⟨⟨c0, c1, c2⟩, ⟨g0, g1, g2, g3, g4⟩, l0, l1, m0, m1⟩ := FX.out w' hD.1
                go_simp; rfl
              simp only [Act.put, List.setIfInBounds_toArray, List.set_cons_succ, List.set_cons_zero, Nat.reduceAdd]
              refine wM_val ?us1b1 rfl rfl Ext.refl (fun w' hD => ?hs1b1) (fun phs1b1 => ?ns1b1)
              case hs1b1 =>
                obtain ⟨⟨c0, c1, c2⟩, ⟨g0, g1, g2, g3, g4⟩, l0, l1, m0, m1⟩ := FX.out w' hD.1
                go_simp; rfl
              simp only [Act.put, List.setIfInBounds_toArray, List.set_cons_succ, List.set_cons_zero, Nat.reduceAdd]
              refine wM_val ?us1b2 rfl rfl Ext.refl (fun w' hD => ?hs1b2) (fun phs1b2 => ?ns1b2)
              case hs1b2 =>
                obtain ⟨⟨c0, c1, c2⟩, ⟨g0, g1, g2, g3, g4⟩, l0, l1, m0, m1⟩ := FX.out w' hD.1
                go_simp; rfl
              simp only [Act.put, List.setIfInBounds_toArray, List.set_cons_succ, List.set_cons_zero, Nat.reduceAdd]
              refine wM_val ?us1b3 rfl rfl Ext.refl (fun w' hD => ?hs1b3) (fun phs1b3 => ?ns1b3)
              case hs1b3 =>
                obtain ⟨⟨c0, c1, c2⟩, ⟨g0, g1, g2, g3, g4⟩, l0, l1, m0, m1⟩ := FX.out w' hD.1
                go_simp; rfl
              simp only [Act.put, List.setIfInBounds_toArray, List.set_cons_succ, List.set_cons_zero, Nat.reduceAdd]
              refine wM_op _ rfl rfl (opens_call ?fs1b4 ?gs1b4 (fun w' hD => ?hs1b4) (fun w' hD => ?cs1b4)) (fun v4 hv4 => ?ns1b4)
              case hs1b4 => go_simp; constructor <;> rfl
              case cs1b4 =>
                refine (KU2.out w' hD.1).mono ?_
                rintro e w2 ⟨rfl, hb⟩
                exact ⟨_, rfl, hb, rfl⟩
              obtain ⟨_, -, -, rfl⟩ := hv4
              simp only [Act.put, List.setIfInBounds_toArray, List.set_cons_succ, List.set_cons_zero, Nat.reduceAdd]
              refine wM_val ?us1b5 rfl rfl Ext.refl (fun w' hD => ?hs1b5) (fun phs1b5 => ?ns1b5)
              case hs1b5 =>
                obtain ⟨⟨c0, c1, c2⟩, ⟨g0, g1, g2, g3, g4⟩, l0, l1, m0, m1⟩ := FX.out w' hD.1
                go_simp; rfl
              simp only [Act.put, List.setIfInBounds_toArray, List.set_cons_succ, List.set_cons_zero, Nat.reduceAdd]
              refine wM_val ?us1b6 rfl rfl Ext.refl (fun w' hD => ?hs1b6) (fun phs1b6 => ?ns1b6)
              case hs1b6 =>
                obtain ⟨⟨c0, c1, c2⟩, ⟨g0, g1, g2, g3, g4⟩, l0, l1, m0, m1⟩ := FX.out w' hD.1
                go_simp; rfl
              simp only [Act.put, List.setIfInBounds_toArray, List.set_cons_succ, List.set_cons_zero, Nat.reduceAdd]
              refine wM_val ?us1b7 rfl rfl Ext.refl (fun w' hD => ?hs1b7) (fun phs1b7 => ?ns1b7)
              case hs1b7 =>
                obtain ⟨⟨c0, c1, c2⟩, ⟨g0, g1, g2, g3, g4⟩, l0, l1, m0, m1⟩ := FX.out w' hD.1
                go_simp; rfl
              simp only [Act.put, List.setIfInBounds_toArray, List.set_cons_succ, List.set_cons_zero, Nat.reduceAdd]
              refine wM_val ?us1b8 rfl rfl Ext.refl (fun w' hD => ?hs1b8) (fun phs1b8 => ?ns1b8)
              case hs1b8 =>
                obtain ⟨⟨c0, c1, c2⟩, ⟨g0, g1, g2, g3, g4⟩, l0, l1, m0, m1⟩ := FX.out w' hD.1
                go_simp; rfl
              simp only [Act.put, List.setIfInBounds_toArray, List.set_cons_succ, List.set_cons_zero, Nat.reduceAdd]
              refine wM_skip rfl ?_
              simp only [Act.put, List.setIfInBounds_toArray, List.set_cons_succ, List.set_cons_zero, Nat.reduceAdd]
              refine wM_skip rfl ?_
              simp only [Act.put, List.setIfInBounds_toArray, List.set_cons_succ, List.set_cons_zero, Nat.reduceAdd]
              refine wM_skip rfl ?_
              simp only [Act.put, List.setIfInBounds_toArray, List.set_cons_succ, List.set_cons_zero, Nat.reduceAdd]
              refine wM_skip rfl ?_
              simp only [Act.put, List.setIfInBounds_toArray, List.set_cons_succ, List.set_cons_zero, Nat.reduceAdd]
              refine wM_val ?us1b13 rfl rfl Ext.refl (fun w' hD => ?hs1b13) (fun phs1b13 => ?ns1b13)
              case hs1b13 =>
                obtain ⟨⟨c0, c1, c2⟩, ⟨g0, g1, g2, g3, g4⟩, l0, l1, m0, m1⟩ := FX.out w' hD.1
                go_simp; rfl
              simp only [Act.put, List.setIfInBounds_toArray, List.set_cons_succ, List.set_cons_zero, Nat.reduceAdd]
              refine wM_val ?us1b14 rfl rfl Ext.refl (fun w' hD => ?hs1b14) (fun phs1b14 => ?ns1b14)
              case hs1b14 =>
                obtain ⟨⟨c0, c1, c2⟩, ⟨g0, g1, g2, g3, g4⟩, l0, l1, m0, m1⟩ := FX.out w' hD.1
                go_simp; rfl
              simp only [Act.put, List.setIfInBounds_toArray, List.set_cons_succ, List.set_cons_zero, Nat.reduceAdd]
              refine wM_nil ?_
              intro w9 hw9 hF9
              clear hF9
              have HLA : Hid (lstO (upsK h m (k + 1)) = if true = true then some x.hi else none) := HSU.out
              obtain ⟨d0, d1, d2⟩ := rat_cells ((Below.block hw9 _ hlt8).trans h8)
              obtain ⟨⟨c0, c1, c2⟩, ⟨g0, g1, g2, g3, g4⟩, -⟩ := FX.out w9 hw9
              have h79 := (Below.block hw9 _ hlt7).trans h7
              have h89 := (Below.block hw9 _ hlt8).trans h8
              have hv9 := hv.trans hw9
              clear FX KU2 HSU
              go_wp2_with fail
              refine (KM.out w9).mono ?_
              rintro e wa ⟨rfl, hxa⟩
              have h7a := (Below.block hxa _ (Array.getElem?_eq_some_iff.1 h79).1).trans h79
              have h8a := (Below.block hxa _ (Array.getElem?_eq_some_iff.1 h89).1).trans h89
              have hva := hv9.trans hxa
              obtain ⟨d0, d1, d2⟩ := rat_cells h8a
              have h8b := rat_put h8a (.int .i64 x.hi.1) (.int .i64 x.hi.2)
              have h7b : ((wa.setCell ⟨B7 + 1, 0, none⟩ (.int .i64 x.hi.1)).setCell ⟨B7 + 1, 1, none⟩ (.int .i64 x.hi.2)).heap[B7]? = some (.cells #[.int .i64 lo.1, .int .i64 lo.2] 43 (0, 0)) := by
                rw [heap_setCell_ne2 (by show B7 ≠ B7 + 1; omega), heap_setCell_ne2 (by show B7 ≠ B7 + 1; omega)]; exact h7a
              have hvb := Ext.setCell (Ext.setCell hva (p := ⟨B7 + 1, 0, none⟩) (by show W2.heap.size ≤ B7 + 1; have := HB7.out; omega) (.int .i64 x.hi.1)) (p := ⟨B7 + 1, 1, none⟩) (by show W2.heap.size ≤ B7 + 1; have := HB7.out; omega) (.int .i64 x.hi.2)
              obtain ⟨wb, hwb⟩ : ∃ W, (wa.setCell ⟨B7 + 1, 0, none⟩ (.int .i64 x.hi.1)).setCell ⟨B7 + 1, 1, none⟩ (.int .i64 x.hi.2) = W := ⟨_, rfl⟩
              rw [hwb] at h8b h7b hvb
              have HWB := hid hwb
              clear hwb h7a h8a hva h79 h89 hv9 c0 c1 c2 g0 g1 g2 g3 g4 bx hv h7 h8
              go_wp2
              try rw [HWB.out]
              go_roundw
              case rel => exact ⟨k + 1, lo, x.hi, bl, true, by omega, by go_num, rfl, rfl, HGA, HLA, hlo, HSM.out.2, h7b, h8b, hvb⟩
              case measure => simp [intOf]; omega
            | true =>
              have KC2 := hid fun w' => less_any x.hi hi w' HSM.out.2 hhi
              obtain ⟨C2, hC2⟩ : ∃ b, abv hi x.hi = b := ⟨_, rfl⟩
              rw [hC2] at KC2
              have HC2 := hid hC2
              unfold rval at KC2
              clear hC2
              refine wp_region_shut Ext (fun w' => Ext V9 w') (fun
                | 4 => some (fun v _ => v = .bool true) 
                | 10 => some (fun v _ => v = .agg #[.int .i64 x.hi.1, .int .i64 x.hi.2]) 
                | 12 => some (fun v _ => v = .bool C2)
                | _ => none) (by kernel_rfl) (by kernel_rfl) (fun _ _ h k => h.trans k) ?hTs1d (Ext.drew (Ext.refl V9)) ?_
              case hTs1d =>
                intro i R hR
                match i, hR with
                | 4, hR => cases hR; exact fun _ _ _ h _ => h
                | 10, hR => cases hR; exact fun _ _ _ h _ => h
                | 12, hR => cases hR; exact fun _ _ _ h _ => h
              refine wM_val ?us1d0 rfl rfl Ext.refl (fun w' hD => ?hs1d0) (fun phs1d0 => ?ns1d0)
              case hs1d0 =>
                obtain ⟨⟨c0, c1, c2⟩, ⟨g0, g1, g2, g3, g4⟩, l0, l1, m0, m1⟩ := FX.out w' hD.1
                go_simp; rfl
              simp only [Act.put, List.setIfInBounds_toArray, List.set_cons_succ, List.set_cons_zero, Nat.reduceAdd]
              refine wM_val ?us1d1 rfl rfl Ext.refl (fun w' hD => ?hs1d1) (fun phs1d1 => ?ns1d1)
              case hs1d1 =>
                obtain ⟨⟨c0, c1, c2⟩, ⟨g0, g1, g2, g3, g4⟩, l0, l1, m0, m1⟩ := FX.out w' hD.1
                go_simp; rfl
              simp only [Act.put, List.setIfInBounds_toArray, List.set_cons_succ, List.set_cons_zero, Nat.reduceAdd]
              refine wM_val ?us1d2 rfl rfl Ext.refl (fun w' hD => ?hs1d2) (fun phs1d2 => ?ns1d2)
              case hs1d2 =>
                obtain ⟨⟨c0, c1, c2⟩, ⟨g0, g1, g2, g3, g4⟩, l0, l1, m0, m1⟩ := FX.out w' hD.1
                go_simp; rfl
              simp only [Act.put, List.setIfInBounds_toArray, List.set_cons_succ, List.set_cons_zero, Nat.reduceAdd]
              refine wM_val ?us1d3 rfl rfl Ext.refl (fun w' hD => ?hs1d3) (fun phs1d3 => ?ns1d3)
              case hs1d3 =>
                obtain ⟨⟨c0, c1, c2⟩, ⟨g0, g1, g2, g3, g4⟩, l0, l1, m0, m1⟩ := FX.out w' hD.1
                go_simp; rfl
              simp only [Act.put, List.setIfInBounds_toArray, List.set_cons_succ, List.set_cons_zero, Nat.reduceAdd]
              refine wM_op _ rfl rfl (opens_call ?fs1d4 ?gs1d4 (fun w' hD => ?hs1d4) (fun w' hD => ?cs1d4)) (fun v4 hv4 => ?ns1d4)
              case hs1d4 => go_simp; constructor <;> rfl
              case cs1d4 =>
                refine (KU2.out w' hD.1).mono ?_
                rintro e w2 ⟨rfl, hb⟩
                exact ⟨_, rfl, hb, rfl⟩
              obtain ⟨_, -, -, rfl⟩ := hv4
              simp only [Act.put, List.setIfInBounds_toArray, List.set_cons_succ, List.set_cons_zero, Nat.reduceAdd]
              refine wM_val ?us1d5 rfl rfl Ext.refl (fun w' hD => ?hs1d5) (fun phs1d5 => ?ns1d5)
              case hs1d5 =>
                obtain ⟨⟨c0, c1, c2⟩, ⟨g0, g1, g2, g3, g4⟩, l0, l1, m0, m1⟩ := FX.out w' hD.1
                go_simp; rfl
              simp only [Act.put, List.setIfInBounds_toArray, List.set_cons_succ, List.set_cons_zero, Nat.reduceAdd]
              refine wM_val ?us1d6 rfl rfl Ext.refl (fun w' hD => ?hs1d6) (fun phs1d6 => ?ns1d6)
              case hs1d6 =>
                obtain ⟨⟨c0, c1, c2⟩, ⟨g0, g1, g2, g3, g4⟩, l0, l1, m0, m1⟩ := FX.out w' hD.1
                go_simp; rfl
              simp only [Act.put, List.setIfInBounds_toArray, List.set_cons_succ, List.set_cons_zero, Nat.reduceAdd]
              refine wM_val ?us1d7 rfl rfl Ext.refl (fun w' hD => ?hs1d7) (fun phs1d7 => ?ns1d7)
              case hs1d7 =>
                obtain ⟨⟨c0, c1, c2⟩, ⟨g0, g1, g2, g3, g4⟩, l0, l1, m0, m1⟩ := FX.out w' hD.1
                go_simp; rfl
              simp only [Act.put, List.setIfInBounds_toArray, List.set_cons_succ, List.set_cons_zero, Nat.reduceAdd]
              refine wM_val ?us1d8 rfl rfl Ext.refl (fun w' hD => ?hs1d8) (fun phs1d8 => ?ns1d8)
              case hs1d8 =>
                obtain ⟨⟨c0, c1, c2⟩, ⟨g0, g1, g2, g3, g4⟩, l0, l1, m0, m1⟩ := FX.out w' hD.1
                go_simp; rfl
              simp only [Act.put, List.setIfInBounds_toArray, List.set_cons_succ, List.set_cons_zero, Nat.reduceAdd]
              refine wM_val ?us1d9 rfl rfl Ext.refl (fun w' hD => ?hs1d9) (fun phs1d9 => ?ns1d9)
              case hs1d9 =>
                obtain ⟨⟨c0, c1, c2⟩, ⟨g0, g1, g2, g3, g4⟩, l0, l1, m0, m1⟩ := FX.out w' hD.1
                go_simp; rfl
              simp only [Act.put, List.setIfInBounds_toArray, List.set_cons_succ, List.set_cons_zero, Nat.reduceAdd]
              refine wM_op _ rfl rfl (opens_call ?fs1d10 ?gs1d10 (fun w' hD => ?hs1d10) (fun w' hD => ?cs1d10)) (fun v10 hv10 => ?ns1d10)
              case hs1d10 => go_simp; constructor <;> rfl
              case cs1d10 =>
                refine (KM.out w').mono ?_
                rintro e w2 ⟨rfl, hb⟩
                exact ⟨_, rfl, hb, rfl⟩
              obtain ⟨_, -, -, rfl⟩ := hv10
              simp only [Act.put, List.setIfInBounds_toArray, List.set_cons_succ, List.set_cons_zero, Nat.reduceAdd]
              refine wM_val ?us1d11 rfl rfl Ext.refl (fun w' hD => ?hs1d11) (fun phs1d11 => ?ns1d11)
              case hs1d11 =>
                obtain ⟨⟨c0, c1, c2⟩, ⟨g0, g1, g2, g3, g4⟩, l0, l1, m0, m1⟩ := FX.out w' hD.1
                go_simp; rfl
              simp only [Act.put, List.setIfInBounds_toArray, List.set_cons_succ, List.set_cons_zero, Nat.reduceAdd]
              refine wM_op _ rfl rfl (opens_call ?fs1d12 ?gs1d12 (fun w' hD => ?hs1d12) (fun w' hD => ?cs1d12)) (fun v12 hv12 => ?ns1d12)
              case hs1d12 => go_simp; constructor <;> rfl
              case cs1d12 =>
                refine (KC2.out w').mono ?_
                rintro e w2 ⟨rfl, hb⟩
                exact ⟨_, rfl, hb, rfl⟩
              obtain ⟨_, -, -, rfl⟩ := hv12
              simp only [Act.put, List.setIfInBounds_toArray, List.set_cons_succ, List.set_cons_zero, Nat.reduceAdd]
              refine wM_val ?us1d13 rfl rfl Ext.refl (fun w' hD => ?hs1d13) (fun phs1d13 => ?ns1d13)
              case hs1d13 =>
                obtain ⟨⟨c0, c1, c2⟩, ⟨g0, g1, g2, g3, g4⟩, l0, l1, m0, m1⟩ := FX.out w' hD.1
                go_simp; rfl
              simp only [Act.put, List.setIfInBounds_toArray, List.set_cons_succ, List.set_cons_zero, Nat.reduceAdd]
              refine wM_val ?us1d14 rfl rfl Ext.refl (fun w' hD => ?hs1d14) (fun phs1d14 => ?ns1d14)
              case hs1d14 =>
                obtain ⟨⟨c0, c1, c2⟩, ⟨g0, g1, g2, g3, g4⟩, l0, l1, m0, m1⟩ := FX.out w' hD.1
                go_simp; rfl
              simp only [Act.put, List.setIfInBounds_toArray, List.set_cons_succ, List.set_cons_zero, Nat.reduceAdd]
              refine wM_nil ?_
              intro w9 hw9 hF9
              clear hF9
              cases C2 with
              | false =>
                have HLA : Hid (lstO (upsK h m (k + 1)) = if true = true then some hi else none) := by have q := HSU.out; simp only [if_true, HC2.out] at q; exact q
                have h7 := (Below.block hw9 _ hlt7).trans h7
                have h8 := (Below.block hw9 _ hlt8).trans h8
                have hv := hv.trans hw9
                clear FX KU2 HSU bx KC2
                go_wp2
                go_roundw
                case rel => exact ⟨k + 1, lo, hi, bl, true, by omega, by go_num, rfl, rfl, HGA, HLA, hlo, hhi, h7, h8, hv⟩
                case measure => simp [intOf]; omega
              | true =>
                have HLA : Hid (lstO (upsK h m (k + 1)) = if true = true then some x.hi else none) := by have q := HSU.out; simp only [if_true, HC2.out] at q; exact q
                clear KC2
                obtain ⟨d0, d1, d2⟩ := rat_cells ((Below.block hw9 _ hlt8).trans h8)
                obtain ⟨⟨c0, c1, c2⟩, ⟨g0, g1, g2, g3, g4⟩, -⟩ := FX.out w9 hw9
                have h79 := (Below.block hw9 _ hlt7).trans h7
                have h89 := (Below.block hw9 _ hlt8).trans h8
                have hv9 := hv.trans hw9
                clear FX KU2 HSU
                go_wp2_with fail
                refine (KM.out w9).mono ?_
                rintro e wa ⟨rfl, hxa⟩
                have h7a := (Below.block hxa _ (Array.getElem?_eq_some_iff.1 h79).1).trans h79
                have h8a := (Below.block hxa _ (Array.getElem?_eq_some_iff.1 h89).1).trans h89
                have hva := hv9.trans hxa
                obtain ⟨d0, d1, d2⟩ := rat_cells h8a
                have h8b := rat_put h8a (.int .i64 x.hi.1) (.int .i64 x.hi.2)
                have h7b : ((wa.setCell ⟨B7 + 1, 0, none⟩ (.int .i64 x.hi.1)).setCell ⟨B7 + 1, 1, none⟩ (.int .i64 x.hi.2)).heap[B7]? = some (.cells #[.int .i64 lo.1, .int .i64 lo.2] 43 (0, 0)) := by
                  rw [heap_setCell_ne2 (by show B7 ≠ B7 + 1; omega), heap_setCell_ne2 (by show B7 ≠ B7 + 1; omega)]; exact h7a
                have hvb := Ext.setCell (Ext.setCell hva (p := ⟨B7 + 1, 0, none⟩) (by show W2.heap.size ≤ B7 + 1; have := HB7.out; omega) (.int .i64 x.hi.1)) (p := ⟨B7 + 1, 1, none⟩) (by show W2.heap.size ≤ B7 + 1; have := HB7.out; omega) (.int .i64 x.hi.2)
                obtain ⟨wb, hwb⟩ : ∃ W, (wa.setCell ⟨B7 + 1, 0, none⟩ (.int .i64 x.hi.1)).setCell ⟨B7 + 1, 1, none⟩ (.int .i64 x.hi.2) = W := ⟨_, rfl⟩
                rw [hwb] at h8b h7b hvb
                have HWB := hid hwb
                clear hwb h7a h8a hva h79 h89 hv9 c0 c1 c2 g0 g1 g2 g3 g4 bx hv h7 h8
                go_wp2
                try rw [HWB.out]
                go_roundw
                case rel => exact ⟨k + 1, lo, x.hi, bl, true, by omega, by go_num, rfl, rfl, HGA, HLA, hlo, HSM.out.2, h7b, h8b, hvb⟩
                case measure => simp [intOf]; omega
        | true =>
          cases bl with
          | false =>
            refine wp_region_shut Ext (fun w' => Ext V6 w') (fun
              | 4 => some (fun v _ => v = .bool true)
              | _ => none) (by kernel_rfl) (by kernel_rfl) (fun _ _ h k => h.trans k) ?hTfb (Ext.drew (Ext.refl V6)) ?_
            case hTfb =>
              intro i R hR
              match i, hR with
              | 4, hR => cases hR; exact fun _ _ _ h _ => h
            refine wM_val ?ufb0 rfl rfl Ext.refl (fun w' hD => ?hfb0) (fun phfb0 => ?nfb0)
            case hfb0 =>
              obtain ⟨⟨c0, c1, c2⟩, ⟨g0, g1, g2, g3, g4⟩, l0, l1, m0, m1⟩ := FX.out w' hD.1
              go_simp; rfl
            simp only [Act.put, List.setIfInBounds_toArray, List.set_cons_succ, List.set_cons_zero, Nat.reduceAdd]
            refine wM_val ?ufb1 rfl rfl Ext.refl (fun w' hD => ?hfb1) (fun phfb1 => ?nfb1)
            case hfb1 =>
              obtain ⟨⟨c0, c1, c2⟩, ⟨g0, g1, g2, g3, g4⟩, l0, l1, m0, m1⟩ := FX.out w' hD.1
              go_simp; rfl
            simp only [Act.put, List.setIfInBounds_toArray, List.set_cons_succ, List.set_cons_zero, Nat.reduceAdd]
            refine wM_val ?ufb2 rfl rfl Ext.refl (fun w' hD => ?hfb2) (fun phfb2 => ?nfb2)
            case hfb2 =>
              obtain ⟨⟨c0, c1, c2⟩, ⟨g0, g1, g2, g3, g4⟩, l0, l1, m0, m1⟩ := FX.out w' hD.1
              go_simp; rfl
            simp only [Act.put, List.setIfInBounds_toArray, List.set_cons_succ, List.set_cons_zero, Nat.reduceAdd]
            refine wM_val ?ufb3 rfl rfl Ext.refl (fun w' hD => ?hfb3) (fun phfb3 => ?nfb3)
            case hfb3 =>
              obtain ⟨⟨c0, c1, c2⟩, ⟨g0, g1, g2, g3, g4⟩, l0, l1, m0, m1⟩ := FX.out w' hD.1
              go_simp; rfl
            simp only [Act.put, List.setIfInBounds_toArray, List.set_cons_succ, List.set_cons_zero, Nat.reduceAdd]
            refine wM_op _ rfl rfl (opens_call ?ffb4 ?gfb4 (fun w' hD => ?hfb4) (fun w' hD => ?cfb4)) (fun v4 hv4 => ?nfb4)
            case hfb4 => go_simp; constructor <;> rfl
            case cfb4 =>
              refine (KU1.out w' hD.1).mono ?_
              rintro e w2 ⟨rfl, hb⟩
              exact ⟨_, rfl, hb, rfl⟩
            obtain ⟨_, -, -, rfl⟩ := hv4
            simp only [Act.put, List.setIfInBounds_toArray, List.set_cons_succ, List.set_cons_zero, Nat.reduceAdd]
            refine wM_val ?ufb5 rfl rfl Ext.refl (fun w' hD => ?hfb5) (fun phfb5 => ?nfb5)
            case hfb5 =>
              obtain ⟨⟨c0, c1, c2⟩, ⟨g0, g1, g2, g3, g4⟩, l0, l1, m0, m1⟩ := FX.out w' hD.1
              go_simp; rfl
            simp only [Act.put, List.setIfInBounds_toArray, List.set_cons_succ, List.set_cons_zero, Nat.reduceAdd]
            refine wM_val ?ufb6 rfl rfl Ext.refl (fun w' hD => ?hfb6) (fun phfb6 => ?nfb6)
            case hfb6 =>
              obtain ⟨⟨c0, c1, c2⟩, ⟨g0, g1, g2, g3, g4⟩, l0, l1, m0, m1⟩ := FX.out w' hD.1
              go_simp; rfl
            simp only [Act.put, List.setIfInBounds_toArray, List.set_cons_succ, List.set_cons_zero, Nat.reduceAdd]
            refine wM_val ?ufb7 rfl rfl Ext.refl (fun w' hD => ?hfb7) (fun phfb7 => ?nfb7)
            case hfb7 =>
              obtain ⟨⟨c0, c1, c2⟩, ⟨g0, g1, g2, g3, g4⟩, l0, l1, m0, m1⟩ := FX.out w' hD.1
              go_simp; rfl
            simp only [Act.put, List.setIfInBounds_toArray, List.set_cons_succ, List.set_cons_zero, Nat.reduceAdd]
            refine wM_val ?ufb8 rfl rfl Ext.refl (fun w' hD => ?hfb8) (fun phfb8 => ?nfb8)
            case hfb8 =>
              obtain ⟨⟨c0, c1, c2⟩, ⟨g0, g1, g2, g3, g4⟩, l0, l1, m0, m1⟩ := FX.out w' hD.1
              go_simp; rfl
            simp only [Act.put, List.setIfInBounds_toArray, List.set_cons_succ, List.set_cons_zero, Nat.reduceAdd]
            refine wM_skip rfl ?_
            simp only [Act.put, List.setIfInBounds_toArray, List.set_cons_succ, List.set_cons_zero, Nat.reduceAdd]
            refine wM_skip rfl ?_
            simp only [Act.put, List.setIfInBounds_toArray, List.set_cons_succ, List.set_cons_zero, Nat.reduceAdd]
            refine wM_skip rfl ?_
            simp only [Act.put, List.setIfInBounds_toArray, List.set_cons_succ, List.set_cons_zero, Nat.reduceAdd]
            refine wM_skip rfl ?_
            simp only [Act.put, List.setIfInBounds_toArray, List.set_cons_succ, List.set_cons_zero, Nat.reduceAdd]
            refine wM_val ?ufb13 rfl rfl Ext.refl (fun w' hD => ?hfb13) (fun phfb13 => ?nfb13)
            case hfb13 =>
              obtain ⟨⟨c0, c1, c2⟩, ⟨g0, g1, g2, g3, g4⟩, l0, l1, m0, m1⟩ := FX.out w' hD.1
              go_simp; rfl
            simp only [Act.put, List.setIfInBounds_toArray, List.set_cons_succ, List.set_cons_zero, Nat.reduceAdd]
            refine wM_val ?ufb14 rfl rfl Ext.refl (fun w' hD => ?hfb14) (fun phfb14 => ?nfb14)
            case hfb14 =>
              obtain ⟨⟨c0, c1, c2⟩, ⟨g0, g1, g2, g3, g4⟩, l0, l1, m0, m1⟩ := FX.out w' hD.1
              go_simp; rfl
            simp only [Act.put, List.setIfInBounds_toArray, List.set_cons_succ, List.set_cons_zero, Nat.reduceAdd]
            refine wM_nil ?_
            intro w9 hw9 hF9
            clear hF9
            have HGA : Hid (gstO (lowsK h m (k + 1)) = if true = true then some x.lo else none) := HSL.out
            obtain ⟨d0, d1, d2⟩ := rat_cells ((Below.block hw9 _ hlt7).trans h7)
            obtain ⟨⟨c0, c1, c2⟩, ⟨g0, g1, g2, g3, g4⟩, -⟩ := FX.out w9 hw9
            have h79 := (Below.block hw9 _ hlt7).trans h7
            have h89 := (Below.block hw9 _ hlt8).trans h8
            have bx9 := (Below.block hw9 _ hltx).trans bx
            have hv9 := hv.trans hw9
            clear FX KU1 HSL
            go_wp2_with fail
            refine (KL.out w9).mono ?_
            rintro e wa ⟨rfl, hxa⟩
            have h7a := (Below.block hxa _ (Array.getElem?_eq_some_iff.1 h79).1).trans h79
            have h8a := (Below.block hxa _ (Array.getElem?_eq_some_iff.1 h89).1).trans h89
            have bxa := (Below.block hxa _ (Array.getElem?_eq_some_iff.1 bx9).1).trans bx9
            have hva := hv9.trans hxa
            have hza := hxa.size
            have hz9 := hw9.size
            obtain ⟨d0, d1, d2⟩ := rat_cells h7a
            have h7b := rat_put h7a (.int .i64 x.lo.1) (.int .i64 x.lo.2)
            have h8b : ((wa.setCell ⟨B7, 0, none⟩ (.int .i64 x.lo.1)).setCell ⟨B7, 1, none⟩ (.int .i64 x.lo.2)).heap[B7 + 1]? = some (.cells #[.int .i64 hi.1, .int .i64 hi.2] 43 (0, 0)) := by
              rw [heap_setCell_ne2 (by show B7 + 1 ≠ B7; omega), heap_setCell_ne2 (by show B7 + 1 ≠ B7; omega)]; exact h8a
            have bxb : ((wa.setCell ⟨B7, 0, none⟩ (.int .i64 x.lo.1)).setCell ⟨B7, 1, none⟩ (.int .i64 x.lo.2)).heap[BX]? = some (.cells #[.int .i64 x.mo, .int .i64 x.sl, .int .i64 x.sh, .int .i64 x.ml, .int .i64 x.mh] 92 (0, 0)) := by
              rw [heap_setCell_ne2 (by show BX ≠ B7; omega), heap_setCell_ne2 (by show BX ≠ B7; omega)]; exact bxa
            have hvb := Ext.setCell (Ext.setCell hva (p := ⟨B7, 0, none⟩) (by show W2.heap.size ≤ B7; have := HB7.out; omega) (.int .i64 x.lo.1)) (p := ⟨B7, 1, none⟩) (by show W2.heap.size ≤ B7; have := HB7.out; omega) (.int .i64 x.lo.2)
            obtain ⟨V8, hV8⟩ : ∃ W, (wa.setCell ⟨B7, 0, none⟩ (.int .i64 x.lo.1)).setCell ⟨B7, 1, none⟩ (.int .i64 x.lo.2) = W := ⟨_, rfl⟩
            rw [hV8] at h8b h7b hvb bxb
            have HV8 := hid hV8
            clear hV8 h7a h8a hva h79 h89 hv9 bxa bx9 bx hv h7 h8 hlt7 hlt8 hltx hza hz9
            have hv8 := hvb
            have h7 := h7b
            have h8 := h8b
            have bx := bxb
            have hlt7 := (Array.getElem?_eq_some_iff.1 h7).1
            have hlt8 := (Array.getElem?_eq_some_iff.1 h8).1
            clear hvb h7b h8b bxb
            go_upto_region 11 with fail
            try rw [HV8.out]
            clear HV8 c0 c1 c2 g0 g1 g2 g3 g4 d0 d1 d2
            obtain ⟨V9, hV9⟩ : ∃ V : World, V = V8 := ⟨_, rfl⟩
            subst hV9
            have hv := hv8
            have FX : Hid (∀ w', Ext V9 w' → (w'.cell? ⟨w.heap.size, 0, none⟩ = some (.int .i64 h.mo) ∧ w'.cell? ⟨w.heap.size, 1, none⟩ = some (.int .i64 h.pk) ∧ w'.cell? ⟨w.heap.size, 2, none⟩ = some (.slice (some ⟨b, off, none⟩) N c)) ∧ (w'.cell? ⟨BX, 0, none⟩ = some (.int .i64 x.mo) ∧ w'.cell? ⟨BX, 1, none⟩ = some (.int .i64 x.sl) ∧ w'.cell? ⟨BX, 2, none⟩ = some (.int .i64 x.sh) ∧ w'.cell? ⟨BX, 3, none⟩ = some (.int .i64 x.ml) ∧ w'.cell? ⟨BX, 4, none⟩ = some (.int .i64 x.mh)) ∧ w'.cell? ⟨B7, 0, none⟩ = some (.int .i64 x.lo.1) ∧ w'.cell? ⟨B7, 1, none⟩ = some (.int .i64 x.lo.2) ∧ w'.cell? ⟨B7 + 1, 0, none⟩ = some (.int .i64 hi.1) ∧ w'.cell? ⟨B7 + 1, 1, none⟩ = some (.int .i64 hi.2)) := fun w' hw => by
              have hc := fun i u hu => hw.cell (rblk_cells (xs := [.int .i64 x.mo, .int .i64 x.sl, .int .i64 x.sh, .int .i64 x.ml, .int .i64 x.mh]) bx i u hu)
              obtain ⟨q0, q1, -⟩ := rat_cells h7
              obtain ⟨r0, r1, -⟩ := rat_cells h8
              exact ⟨FH.out w' (hv.trans hw), ⟨hc 0 _ rfl, hc 1 _ rfl, hc 2 _ rfl, hc 3 _ rfl, hc 4 _ rfl⟩, hw.cell q0, hw.cell q1, hw.cell r0, hw.cell r1⟩
            have KU2 : Hid (∀ w', Ext V9 w' → _) := fun w' hw => KU.out m x.mo w' (hv.trans hw)
            obtain ⟨U2, hU2⟩ : ∃ b, undH h m x.mo = b := ⟨_, rfl⟩
            rw [hU2] at KU2 HSU
            clear hU2
            go_upto_region 11 with fail
            cases U2 with
            | false =>
              refine wp_region_shut Ext (fun w' => Ext V9 w') (fun
                | 4 => some (fun v _ => v = .bool false)
                | _ => none) (by kernel_rfl) (by kernel_rfl) (fun _ _ h k => h.trans k) ?hTs2a (Ext.drew (Ext.refl V9)) ?_
              case hTs2a =>
                intro i R hR
                match i, hR with
                | 4, hR => cases hR; exact fun _ _ _ h _ => h
              refine wM_val ?us2a0 rfl rfl Ext.refl (fun w' hD => ?hs2a0) (fun phs2a0 => ?ns2a0)
              case hs2a0 =>
                obtain ⟨⟨c0, c1, c2⟩, ⟨g0, g1, g2, g3, g4⟩, l0, l1, m0, m1⟩ := FX.out w' hD.1
                go_simp; rfl
              simp only [Act.put, List.setIfInBounds_toArray, List.set_cons_succ, List.set_cons_zero, Nat.reduceAdd]
              refine wM_val ?us2a1 rfl rfl Ext.refl (fun w' hD => ?hs2a1) (fun phs2a1 => ?ns2a1)
              case hs2a1 =>
                obtain ⟨⟨c0, c1, c2⟩, ⟨g0, g1, g2, g3, g4⟩, l0, l1, m0, m1⟩ := FX.out w' hD.1
                go_simp; rfl
              simp only [Act.put, List.setIfInBounds_toArray, List.set_cons_succ, List.set_cons_zero, Nat.reduceAdd]
              refine wM_val ?us2a2 rfl rfl Ext.refl (fun w' hD => ?hs2a2) (fun phs2a2 => ?ns2a2)
              case hs2a2 =>
                obtain ⟨⟨c0, c1, c2⟩, ⟨g0, g1, g2, g3, g4⟩, l0, l1, m0, m1⟩ := FX.out w' hD.1
                go_simp; rfl
              simp only [Act.put, List.setIfInBounds_toArray, List.set_cons_succ, List.set_cons_zero, Nat.reduceAdd]
              refine wM_val ?us2a3 rfl rfl Ext.refl (fun w' hD => ?hs2a3) (fun phs2a3 => ?ns2a3)
              case hs2a3 =>
                obtain ⟨⟨c0, c1, c2⟩, ⟨g0, g1, g2, g3, g4⟩, l0, l1, m0, m1⟩ := FX.out w' hD.1
                go_simp; rfl
              simp only [Act.put, List.setIfInBounds_toArray, List.set_cons_succ, List.set_cons_zero, Nat.reduceAdd]
              refine wM_op _ rfl rfl (opens_call ?fs2a4 ?gs2a4 (fun w' hD => ?hs2a4) (fun w' hD => ?cs2a4)) (fun v4 hv4 => ?ns2a4)
              case hs2a4 => go_simp; constructor <;> rfl
              case cs2a4 =>
                refine (KU2.out w' hD.1).mono ?_
                rintro e w2 ⟨rfl, hb⟩
                exact ⟨_, rfl, hb, rfl⟩
              obtain ⟨_, -, -, rfl⟩ := hv4
              simp only [Act.put, List.setIfInBounds_toArray, List.set_cons_succ, List.set_cons_zero, Nat.reduceAdd]
              refine wM_val ?us2a5 rfl rfl Ext.refl (fun w' hD => ?hs2a5) (fun phs2a5 => ?ns2a5)
              case hs2a5 =>
                obtain ⟨⟨c0, c1, c2⟩, ⟨g0, g1, g2, g3, g4⟩, l0, l1, m0, m1⟩ := FX.out w' hD.1
                go_simp; rfl
              simp only [Act.put, List.setIfInBounds_toArray, List.set_cons_succ, List.set_cons_zero, Nat.reduceAdd]
              refine wM_skip rfl ?_
              simp only [Act.put, List.setIfInBounds_toArray, List.set_cons_succ, List.set_cons_zero, Nat.reduceAdd]
              refine wM_skip rfl ?_
              simp only [Act.put, List.setIfInBounds_toArray, List.set_cons_succ, List.set_cons_zero, Nat.reduceAdd]
              refine wM_skip rfl ?_
              simp only [Act.put, List.setIfInBounds_toArray, List.set_cons_succ, List.set_cons_zero, Nat.reduceAdd]
              refine wM_skip rfl ?_
              simp only [Act.put, List.setIfInBounds_toArray, List.set_cons_succ, List.set_cons_zero, Nat.reduceAdd]
              refine wM_skip rfl ?_
              simp only [Act.put, List.setIfInBounds_toArray, List.set_cons_succ, List.set_cons_zero, Nat.reduceAdd]
              refine wM_skip rfl ?_
              simp only [Act.put, List.setIfInBounds_toArray, List.set_cons_succ, List.set_cons_zero, Nat.reduceAdd]
              refine wM_skip rfl ?_
              simp only [Act.put, List.setIfInBounds_toArray, List.set_cons_succ, List.set_cons_zero, Nat.reduceAdd]
              refine wM_skip rfl ?_
              simp only [Act.put, List.setIfInBounds_toArray, List.set_cons_succ, List.set_cons_zero, Nat.reduceAdd]
              refine wM_val ?us2a14 rfl rfl Ext.refl (fun w' hD => ?hs2a14) (fun phs2a14 => ?ns2a14)
              case hs2a14 =>
                obtain ⟨⟨c0, c1, c2⟩, ⟨g0, g1, g2, g3, g4⟩, l0, l1, m0, m1⟩ := FX.out w' hD.1
                go_simp; rfl
              simp only [Act.put, List.setIfInBounds_toArray, List.set_cons_succ, List.set_cons_zero, Nat.reduceAdd]
              refine wM_nil ?_
              intro w9 hw9 hF9
              clear hF9
              have HLA : Hid (lstO (upsK h m (k + 1)) = if bh = true then some hi else none) := HSU.out
              have h7 := (Below.block hw9 _ hlt7).trans h7
              have h8 := (Below.block hw9 _ hlt8).trans h8
              have hv := hv.trans hw9
              clear FX KU2 HSU bx
              go_wp2
              go_roundw
              case rel => exact ⟨k + 1, x.lo, hi, true, bh, by omega, by go_num, rfl, rfl, HGA, HLA, HSM.out.1, hhi, h7, h8, hv⟩
              case measure => simp [intOf]; omega
            | true =>
              cases bh with
              | false =>
                refine wp_region_shut Ext (fun w' => Ext V9 w') (fun
                  | 4 => some (fun v _ => v = .bool true)
                  | _ => none) (by kernel_rfl) (by kernel_rfl) (fun _ _ h k => h.trans k) ?hTs2b (Ext.drew (Ext.refl V9)) ?_
                case hTs2b =>
                  intro i R hR
                  match i, hR with
                  | 4, hR => cases hR; exact fun _ _ _ h _ => h
                refine wM_val ?us2b0 rfl rfl Ext.refl (fun w' hD => ?hs2b0) (fun phs2b0 => ?ns2b0)
                case hs2b0 =>
                  obtain ⟨⟨c0, c1, c2⟩, ⟨g0, g1, g2, g3, g4⟩, l0, l1, m0, m1⟩ := FX.out w' hD.1
                  go_simp; rfl
                simp only [Act.put, List.setIfInBounds_toArray, List.set_cons_succ, List.set_cons_zero, Nat.reduceAdd]
                refine wM_val ?us2b1 rfl rfl Ext.refl (fun w' hD => ?hs2b1) (fun phs2b1 => ?ns2b1)
                case hs2b1 =>
                  obtain ⟨⟨c0, c1, c2⟩, ⟨g0, g1, g2, g3, g4⟩, l0, l1, m0, m1⟩ := FX.out w' hD.1
                  go_simp; rfl
                simp only [Act.put, List.setIfInBounds_toArray, List.set_cons_succ, List.set_cons_zero, Nat.reduceAdd]
                refine wM_val ?us2b2 rfl rfl Ext.refl (fun w' hD => ?hs2b2) (fun phs2b2 => ?ns2b2)
                case hs2b2 =>
                  obtain ⟨⟨c0, c1, c2⟩, ⟨g0, g1, g2, g3, g4⟩, l0, l1, m0, m1⟩ := FX.out w' hD.1
                  go_simp; rfl
                simp only [Act.put, List.setIfInBounds_toArray, List.set_cons_succ, List.set_cons_zero, Nat.reduceAdd]
                refine wM_val ?us2b3 rfl rfl Ext.refl (fun w' hD => ?hs2b3) (fun phs2b3 => ?ns2b3)
                case hs2b3 =>
                  obtain ⟨⟨c0, c1, c2⟩, ⟨g0, g1, g2, g3, g4⟩, l0, l1, m0, m1⟩ := FX.out w' hD.1
                  go_simp; rfl
                simp only [Act.put, List.setIfInBounds_toArray, List.set_cons_succ, List.set_cons_zero, Nat.reduceAdd]
                refine wM_op _ rfl rfl (opens_call ?fs2b4 ?gs2b4 (fun w' hD => ?hs2b4) (fun w' hD => ?cs2b4)) (fun v4 hv4 => ?ns2b4)
                case hs2b4 => go_simp; constructor <;> rfl
                case cs2b4 =>
                  refine (KU2.out w' hD.1).mono ?_
                  rintro e w2 ⟨rfl, hb⟩
                  exact ⟨_, rfl, hb, rfl⟩
                obtain ⟨_, -, -, rfl⟩ := hv4
                simp only [Act.put, List.setIfInBounds_toArray, List.set_cons_succ, List.set_cons_zero, Nat.reduceAdd]
                refine wM_val ?us2b5 rfl rfl Ext.refl (fun w' hD => ?hs2b5) (fun phs2b5 => ?ns2b5)
                case hs2b5 =>
                  obtain ⟨⟨c0, c1, c2⟩, ⟨g0, g1, g2, g3, g4⟩, l0, l1, m0, m1⟩ := FX.out w' hD.1
                  go_simp; rfl
                simp only [Act.put, List.setIfInBounds_toArray, List.set_cons_succ, List.set_cons_zero, Nat.reduceAdd]
                refine wM_val ?us2b6 rfl rfl Ext.refl (fun w' hD => ?hs2b6) (fun phs2b6 => ?ns2b6)
                case hs2b6 =>
                  obtain ⟨⟨c0, c1, c2⟩, ⟨g0, g1, g2, g3, g4⟩, l0, l1, m0, m1⟩ := FX.out w' hD.1
                  go_simp; rfl
                simp only [Act.put, List.setIfInBounds_toArray, List.set_cons_succ, List.set_cons_zero, Nat.reduceAdd]
                refine wM_val ?us2b7 rfl rfl Ext.refl (fun w' hD => ?hs2b7) (fun phs2b7 => ?ns2b7)
                case hs2b7 =>
                  obtain ⟨⟨c0, c1, c2⟩, ⟨g0, g1, g2, g3, g4⟩, l0, l1, m0, m1⟩ := FX.out w' hD.1
                  go_simp; rfl
                simp only [Act.put, List.setIfInBounds_toArray, List.set_cons_succ, List.set_cons_zero, Nat.reduceAdd]
                refine wM_val ?us2b8 rfl rfl Ext.refl (fun w' hD => ?hs2b8) (fun phs2b8 => ?ns2b8)
                case hs2b8 =>
                  obtain ⟨⟨c0, c1, c2⟩, ⟨g0, g1, g2, g3, g4⟩, l0, l1, m0, m1⟩ := FX.out w' hD.1
                  go_simp; rfl
                simp only [Act.put, List.setIfInBounds_toArray, List.set_cons_succ, List.set_cons_zero, Nat.reduceAdd]
                refine wM_skip rfl ?_
                simp only [Act.put, List.setIfInBounds_toArray, List.set_cons_succ, List.set_cons_zero, Nat.reduceAdd]
                refine wM_skip rfl ?_
                simp only [Act.put, List.setIfInBounds_toArray, List.set_cons_succ, List.set_cons_zero, Nat.reduceAdd]
                refine wM_skip rfl ?_
                simp only [Act.put, List.setIfInBounds_toArray, List.set_cons_succ, List.set_cons_zero, Nat.reduceAdd]
                refine wM_skip rfl ?_
                simp only [Act.put, List.setIfInBounds_toArray, List.set_cons_succ, List.set_cons_zero, Nat.reduceAdd]
                refine wM_val ?us2b13 rfl rfl Ext.refl (fun w' hD => ?hs2b13) (fun phs2b13 => ?ns2b13)
                case hs2b13 =>
                  obtain ⟨⟨c0, c1, c2⟩, ⟨g0, g1, g2, g3, g4⟩, l0, l1, m0, m1⟩ := FX.out w' hD.1
                  go_simp; rfl
                simp only [Act.put, List.setIfInBounds_toArray, List.set_cons_succ, List.set_cons_zero, Nat.reduceAdd]
                refine wM_val ?us2b14 rfl rfl Ext.refl (fun w' hD => ?hs2b14) (fun phs2b14 => ?ns2b14)
                case hs2b14 =>
                  obtain ⟨⟨c0, c1, c2⟩, ⟨g0, g1, g2, g3, g4⟩, l0, l1, m0, m1⟩ := FX.out w' hD.1
                  go_simp; rfl
                simp only [Act.put, List.setIfInBounds_toArray, List.set_cons_succ, List.set_cons_zero, Nat.reduceAdd]
                refine wM_nil ?_
                intro w9 hw9 hF9
                clear hF9
                have HLA : Hid (lstO (upsK h m (k + 1)) = if true = true then some x.hi else none) := HSU.out
                obtain ⟨d0, d1, d2⟩ := rat_cells ((Below.block hw9 _ hlt8).trans h8)
                obtain ⟨⟨c0, c1, c2⟩, ⟨g0, g1, g2, g3, g4⟩, -⟩ := FX.out w9 hw9
                have h79 := (Below.block hw9 _ hlt7).trans h7
                have h89 := (Below.block hw9 _ hlt8).trans h8
                have hv9 := hv.trans hw9
                clear FX KU2 HSU
                go_wp2_with fail
                refine (KM.out w9).mono ?_
                rintro e wa ⟨rfl, hxa⟩
                have h7a := (Below.block hxa _ (Array.getElem?_eq_some_iff.1 h79).1).trans h79
                have h8a := (Below.block hxa _ (Array.getElem?_eq_some_iff.1 h89).1).trans h89
                have hva := hv9.trans hxa
                obtain ⟨d0, d1, d2⟩ := rat_cells h8a
                have h8b := rat_put h8a (.int .i64 x.hi.1) (.int .i64 x.hi.2)
                have h7b : ((wa.setCell ⟨B7 + 1, 0, none⟩ (.int .i64 x.hi.1)).setCell ⟨B7 + 1, 1, none⟩ (.int .i64 x.hi.2)).heap[B7]? = some (.cells #[.int .i64 x.lo.1, .int .i64 x.lo.2] 43 (0, 0)) := by
                  rw [heap_setCell_ne2 (by show B7 ≠ B7 + 1; omega), heap_setCell_ne2 (by show B7 ≠ B7 + 1; omega)]; exact h7a
                have hvb := Ext.setCell (Ext.setCell hva (p := ⟨B7 + 1, 0, none⟩) (by show W2.heap.size ≤ B7 + 1; have := HB7.out; omega) (.int .i64 x.hi.1)) (p := ⟨B7 + 1, 1, none⟩) (by show W2.heap.size ≤ B7 + 1; have := HB7.out; omega) (.int .i64 x.hi.2)
                obtain ⟨wb, hwb⟩ : ∃ W, (wa.setCell ⟨B7 + 1, 0, none⟩ (.int .i64 x.hi.1)).setCell ⟨B7 + 1, 1, none⟩ (.int .i64 x.hi.2) = W := ⟨_, rfl⟩
                rw [hwb] at h8b h7b hvb
                have HWB := hid hwb
                clear hwb h7a h8a hva h79 h89 hv9 c0 c1 c2 g0 g1 g2 g3 g4 bx hv h7 h8
                go_wp2
                try rw [HWB.out]
                go_roundw
                case rel => exact ⟨k + 1, x.lo, x.hi, true, true, by omega, by go_num, rfl, rfl, HGA, HLA, HSM.out.1, HSM.out.2, h7b, h8b, hvb⟩
                case measure => simp [intOf]; omega
              | true =>
                have KC2 := hid fun w' => less_any x.hi hi w' HSM.out.2 hhi
                obtain ⟨C2, hC2⟩ : ∃ b, abv hi x.hi = b := ⟨_, rfl⟩
                rw [hC2] at KC2
                have HC2 := hid hC2
                unfold rval at KC2
                clear hC2
                refine wp_region_shut Ext (fun w' => Ext V9 w') (fun
                  | 4 => some (fun v _ => v = .bool true) 
                  | 10 => some (fun v _ => v = .agg #[.int .i64 x.hi.1, .int .i64 x.hi.2]) 
                  | 12 => some (fun v _ => v = .bool C2)
                  | _ => none) (by kernel_rfl) (by kernel_rfl) (fun _ _ h k => h.trans k) ?hTs2d (Ext.drew (Ext.refl V9)) ?_
                case hTs2d =>
                  intro i R hR
                  match i, hR with
                  | 4, hR => cases hR; exact fun _ _ _ h _ => h
                  | 10, hR => cases hR; exact fun _ _ _ h _ => h
                  | 12, hR => cases hR; exact fun _ _ _ h _ => h
                refine wM_val ?us2d0 rfl rfl Ext.refl (fun w' hD => ?hs2d0) (fun phs2d0 => ?ns2d0)
                case hs2d0 =>
                  obtain ⟨⟨c0, c1, c2⟩, ⟨g0, g1, g2, g3, g4⟩, l0, l1, m0, m1⟩ := FX.out w' hD.1
                  go_simp; rfl
                simp only [Act.put, List.setIfInBounds_toArray, List.set_cons_succ, List.set_cons_zero, Nat.reduceAdd]
                refine wM_val ?us2d1 rfl rfl Ext.refl (fun w' hD => ?hs2d1) (fun phs2d1 => ?ns2d1)
                case hs2d1 =>
                  obtain ⟨⟨c0, c1, c2⟩, ⟨g0, g1, g2, g3, g4⟩, l0, l1, m0, m1⟩ := FX.out w' hD.1
                  go_simp; rfl
                simp only [Act.put, List.setIfInBounds_toArray, List.set_cons_succ, List.set_cons_zero, Nat.reduceAdd]
                refine wM_val ?us2d2 rfl rfl Ext.refl (fun w' hD => ?hs2d2) (fun phs2d2 => ?ns2d2)
                case hs2d2 =>
                  obtain ⟨⟨c0, c1, c2⟩, ⟨g0, g1, g2, g3, g4⟩, l0, l1, m0, m1⟩ := FX.out w' hD.1
                  go_simp; rfl
                simp only [Act.put, List.setIfInBounds_toArray, List.set_cons_succ, List.set_cons_zero, Nat.reduceAdd]
                refine wM_val ?us2d3 rfl rfl Ext.refl (fun w' hD => ?hs2d3) (fun phs2d3 => ?ns2d3)
                case hs2d3 =>
                  obtain ⟨⟨c0, c1, c2⟩, ⟨g0, g1, g2, g3, g4⟩, l0, l1, m0, m1⟩ := FX.out w' hD.1
                  go_simp; rfl
                simp only [Act.put, List.setIfInBounds_toArray, List.set_cons_succ, List.set_cons_zero, Nat.reduceAdd]
                refine wM_op _ rfl rfl (opens_call ?fs2d4 ?gs2d4 (fun w' hD => ?hs2d4) (fun w' hD => ?cs2d4)) (fun v4 hv4 => ?ns2d4)
                case hs2d4 => go_simp; constructor <;> rfl
                case cs2d4 =>
                  refine (KU2.out w' hD.1).mono ?_
                  rintro e w2 ⟨rfl, hb⟩
                  exact ⟨_, rfl, hb, rfl⟩
                obtain ⟨_, -, -, rfl⟩ := hv4
                simp only [Act.put, List.setIfInBounds_toArray, List.set_cons_succ, List.set_cons_zero, Nat.reduceAdd]
                refine wM_val ?us2d5 rfl rfl Ext.refl (fun w' hD => ?hs2d5) (fun phs2d5 => ?ns2d5)
                case hs2d5 =>
                  obtain ⟨⟨c0, c1, c2⟩, ⟨g0, g1, g2, g3, g4⟩, l0, l1, m0, m1⟩ := FX.out w' hD.1
                  go_simp; rfl
                simp only [Act.put, List.setIfInBounds_toArray, List.set_cons_succ, List.set_cons_zero, Nat.reduceAdd]
                refine wM_val ?us2d6 rfl rfl Ext.refl (fun w' hD => ?hs2d6) (fun phs2d6 => ?ns2d6)
                case hs2d6 =>
                  obtain ⟨⟨c0, c1, c2⟩, ⟨g0, g1, g2, g3, g4⟩, l0, l1, m0, m1⟩ := FX.out w' hD.1
                  go_simp; rfl
                simp only [Act.put, List.setIfInBounds_toArray, List.set_cons_succ, List.set_cons_zero, Nat.reduceAdd]
                refine wM_val ?us2d7 rfl rfl Ext.refl (fun w' hD => ?hs2d7) (fun phs2d7 => ?ns2d7)
                case hs2d7 =>
                  obtain ⟨⟨c0, c1, c2⟩, ⟨g0, g1, g2, g3, g4⟩, l0, l1, m0, m1⟩ := FX.out w' hD.1
                  go_simp; rfl
                simp only [Act.put, List.setIfInBounds_toArray, List.set_cons_succ, List.set_cons_zero, Nat.reduceAdd]
                refine wM_val ?us2d8 rfl rfl Ext.refl (fun w' hD => ?hs2d8) (fun phs2d8 => ?ns2d8)
                case hs2d8 =>
                  obtain ⟨⟨c0, c1, c2⟩, ⟨g0, g1, g2, g3, g4⟩, l0, l1, m0, m1⟩ := FX.out w' hD.1
                  go_simp; rfl
                simp only [Act.put, List.setIfInBounds_toArray, List.set_cons_succ, List.set_cons_zero, Nat.reduceAdd]
                refine wM_val ?us2d9 rfl rfl Ext.refl (fun w' hD => ?hs2d9) (fun phs2d9 => ?ns2d9)
                case hs2d9 =>
                  obtain ⟨⟨c0, c1, c2⟩, ⟨g0, g1, g2, g3, g4⟩, l0, l1, m0, m1⟩ := FX.out w' hD.1
                  go_simp; rfl
                simp only [Act.put, List.setIfInBounds_toArray, List.set_cons_succ, List.set_cons_zero, Nat.reduceAdd]
                refine wM_op _ rfl rfl (opens_call ?fs2d10 ?gs2d10 (fun w' hD => ?hs2d10) (fun w' hD => ?cs2d10)) (fun v10 hv10 => ?ns2d10)
                case hs2d10 => go_simp; constructor <;> rfl
                case cs2d10 =>
                  refine (KM.out w').mono ?_
                  rintro e w2 ⟨rfl, hb⟩
                  exact ⟨_, rfl, hb, rfl⟩
                obtain ⟨_, -, -, rfl⟩ := hv10
                simp only [Act.put, List.setIfInBounds_toArray, List.set_cons_succ, List.set_cons_zero, Nat.reduceAdd]
                refine wM_val ?us2d11 rfl rfl Ext.refl (fun w' hD => ?hs2d11) (fun phs2d11 => ?ns2d11)
                case hs2d11 =>
                  obtain ⟨⟨c0, c1, c2⟩, ⟨g0, g1, g2, g3, g4⟩, l0, l1, m0, m1⟩ := FX.out w' hD.1
                  go_simp; rfl
                simp only [Act.put, List.setIfInBounds_toArray, List.set_cons_succ, List.set_cons_zero, Nat.reduceAdd]
                refine wM_op _ rfl rfl (opens_call ?fs2d12 ?gs2d12 (fun w' hD => ?hs2d12) (fun w' hD => ?cs2d12)) (fun v12 hv12 => ?ns2d12)
                case hs2d12 => go_simp; constructor <;> rfl
                case cs2d12 =>
                  refine (KC2.out w').mono ?_
                  rintro e w2 ⟨rfl, hb⟩
                  exact ⟨_, rfl, hb, rfl⟩
                obtain ⟨_, -, -, rfl⟩ := hv12
                simp only [Act.put, List.setIfInBounds_toArray, List.set_cons_succ, List.set_cons_zero, Nat.reduceAdd]
                refine wM_val ?us2d13 rfl rfl Ext.refl (fun w' hD => ?hs2d13) (fun phs2d13 => ?ns2d13)
                case hs2d13 =>
                  obtain ⟨⟨c0, c1, c2⟩, ⟨g0, g1, g2, g3, g4⟩, l0, l1, m0, m1⟩ := FX.out w' hD.1
                  go_simp; rfl
                simp only [Act.put, List.setIfInBounds_toArray, List.set_cons_succ, List.set_cons_zero, Nat.reduceAdd]
                refine wM_val ?us2d14 rfl rfl Ext.refl (fun w' hD => ?hs2d14) (fun phs2d14 => ?ns2d14)
                case hs2d14 =>
                  obtain ⟨⟨c0, c1, c2⟩, ⟨g0, g1, g2, g3, g4⟩, l0, l1, m0, m1⟩ := FX.out w' hD.1
                  go_simp; rfl
                simp only [Act.put, List.setIfInBounds_toArray, List.set_cons_succ, List.set_cons_zero, Nat.reduceAdd]
                refine wM_nil ?_
                intro w9 hw9 hF9
                clear hF9
                cases C2 with
                | false =>
                  have HLA : Hid (lstO (upsK h m (k + 1)) = if true = true then some hi else none) := by have q := HSU.out; simp only [if_true, HC2.out] at q; exact q
                  have h7 := (Below.block hw9 _ hlt7).trans h7
                  have h8 := (Below.block hw9 _ hlt8).trans h8
                  have hv := hv.trans hw9
                  clear FX KU2 HSU bx KC2
                  go_wp2
                  go_roundw
                  case rel => exact ⟨k + 1, x.lo, hi, true, true, by omega, by go_num, rfl, rfl, HGA, HLA, HSM.out.1, hhi, h7, h8, hv⟩
                  case measure => simp [intOf]; omega
                | true =>
                  have HLA : Hid (lstO (upsK h m (k + 1)) = if true = true then some x.hi else none) := by have q := HSU.out; simp only [if_true, HC2.out] at q; exact q
                  clear KC2
                  obtain ⟨d0, d1, d2⟩ := rat_cells ((Below.block hw9 _ hlt8).trans h8)
                  obtain ⟨⟨c0, c1, c2⟩, ⟨g0, g1, g2, g3, g4⟩, -⟩ := FX.out w9 hw9
                  have h79 := (Below.block hw9 _ hlt7).trans h7
                  have h89 := (Below.block hw9 _ hlt8).trans h8
                  have hv9 := hv.trans hw9
                  clear FX KU2 HSU
                  go_wp2_with fail
                  refine (KM.out w9).mono ?_
                  rintro e wa ⟨rfl, hxa⟩
                  have h7a := (Below.block hxa _ (Array.getElem?_eq_some_iff.1 h79).1).trans h79
                  have h8a := (Below.block hxa _ (Array.getElem?_eq_some_iff.1 h89).1).trans h89
                  have hva := hv9.trans hxa
                  obtain ⟨d0, d1, d2⟩ := rat_cells h8a
                  have h8b := rat_put h8a (.int .i64 x.hi.1) (.int .i64 x.hi.2)
                  have h7b : ((wa.setCell ⟨B7 + 1, 0, none⟩ (.int .i64 x.hi.1)).setCell ⟨B7 + 1, 1, none⟩ (.int .i64 x.hi.2)).heap[B7]? = some (.cells #[.int .i64 x.lo.1, .int .i64 x.lo.2] 43 (0, 0)) := by
                    rw [heap_setCell_ne2 (by show B7 ≠ B7 + 1; omega), heap_setCell_ne2 (by show B7 ≠ B7 + 1; omega)]; exact h7a
                  have hvb := Ext.setCell (Ext.setCell hva (p := ⟨B7 + 1, 0, none⟩) (by show W2.heap.size ≤ B7 + 1; have := HB7.out; omega) (.int .i64 x.hi.1)) (p := ⟨B7 + 1, 1, none⟩) (by show W2.heap.size ≤ B7 + 1; have := HB7.out; omega) (.int .i64 x.hi.2)
                  obtain ⟨wb, hwb⟩ : ∃ W, (wa.setCell ⟨B7 + 1, 0, none⟩ (.int .i64 x.hi.1)).setCell ⟨B7 + 1, 1, none⟩ (.int .i64 x.hi.2) = W := ⟨_, rfl⟩
                  rw [hwb] at h8b h7b hvb
                  have HWB := hid hwb
                  clear hwb h7a h8a hva h79 h89 hv9 c0 c1 c2 g0 g1 g2 g3 g4 bx hv h7 h8
                  go_wp2
                  try rw [HWB.out]
                  go_roundw
                  case rel => exact ⟨k + 1, x.lo, x.hi, true, true, by omega, by go_num, rfl, rfl, HGA, HLA, HSM.out.1, HSM.out.2, h7b, h8b, hvb⟩
                  case measure => simp [intOf]; omega
          | true =>
            have KC1 := hid fun w' => less_any lo x.lo w' hlo HSM.out.1
            obtain ⟨C1, hC1⟩ : ∃ b, abv x.lo lo = b := ⟨_, rfl⟩
            rw [hC1] at KC1
            have HC1 := hid hC1
            unfold rval at KC1
            clear hC1
            refine wp_region_shut Ext (fun w' => Ext V6 w') (fun
              | 4 => some (fun v _ => v = .bool true) 
              | 11 => some (fun v _ => v = .agg #[.int .i64 x.lo.1, .int .i64 x.lo.2]) 
              | 12 => some (fun v _ => v = .bool C1)
              | _ => none) (by kernel_rfl) (by kernel_rfl) (fun _ _ h k => h.trans k) ?hTfd (Ext.drew (Ext.refl V6)) ?_
            case hTfd =>
              intro i R hR
              match i, hR with
              | 4, hR => cases hR; exact fun _ _ _ h _ => h
              | 11, hR => cases hR; exact fun _ _ _ h _ => h
              | 12, hR => cases hR; exact fun _ _ _ h _ => h
            refine wM_val ?ufd0 rfl rfl Ext.refl (fun w' hD => ?hfd0) (fun phfd0 => ?nfd0)
            case hfd0 =>
              obtain ⟨⟨c0, c1, c2⟩, ⟨g0, g1, g2, g3, g4⟩, l0, l1, m0, m1⟩ := FX.out w' hD.1
              go_simp; rfl
            simp only [Act.put, List.setIfInBounds_toArray, List.set_cons_succ, List.set_cons_zero, Nat.reduceAdd]
            refine wM_val ?ufd1 rfl rfl Ext.refl (fun w' hD => ?hfd1) (fun phfd1 => ?nfd1)
            case hfd1 =>
              obtain ⟨⟨c0, c1, c2⟩, ⟨g0, g1, g2, g3, g4⟩, l0, l1, m0, m1⟩ := FX.out w' hD.1
              go_simp; rfl
            simp only [Act.put, List.setIfInBounds_toArray, List.set_cons_succ, List.set_cons_zero, Nat.reduceAdd]
            refine wM_val ?ufd2 rfl rfl Ext.refl (fun w' hD => ?hfd2) (fun phfd2 => ?nfd2)
            case hfd2 =>
              obtain ⟨⟨c0, c1, c2⟩, ⟨g0, g1, g2, g3, g4⟩, l0, l1, m0, m1⟩ := FX.out w' hD.1
              go_simp; rfl
            simp only [Act.put, List.setIfInBounds_toArray, List.set_cons_succ, List.set_cons_zero, Nat.reduceAdd]
            refine wM_val ?ufd3 rfl rfl Ext.refl (fun w' hD => ?hfd3) (fun phfd3 => ?nfd3)
            case hfd3 =>
              obtain ⟨⟨c0, c1, c2⟩, ⟨g0, g1, g2, g3, g4⟩, l0, l1, m0, m1⟩ := FX.out w' hD.1
              go_simp; rfl
            simp only [Act.put, List.setIfInBounds_toArray, List.set_cons_succ, List.set_cons_zero, Nat.reduceAdd]
            refine wM_op _ rfl rfl (opens_call ?ffd4 ?gfd4 (fun w' hD => ?hfd4) (fun w' hD => ?cfd4)) (fun v4 hv4 => ?nfd4)
            case hfd4 => go_simp; constructor <;> rfl
            case cfd4 =>
              refine (KU1.out w' hD.1).mono ?_
              rintro e w2 ⟨rfl, hb⟩
              exact ⟨_, rfl, hb, rfl⟩
            obtain ⟨_, -, -, rfl⟩ := hv4
            simp only [Act.put, List.setIfInBounds_toArray, List.set_cons_succ, List.set_cons_zero, Nat.reduceAdd]
            refine wM_val ?ufd5 rfl rfl Ext.refl (fun w' hD => ?hfd5) (fun phfd5 => ?nfd5)
            case hfd5 =>
              obtain ⟨⟨c0, c1, c2⟩, ⟨g0, g1, g2, g3, g4⟩, l0, l1, m0, m1⟩ := FX.out w' hD.1
              go_simp; rfl
            simp only [Act.put, List.setIfInBounds_toArray, List.set_cons_succ, List.set_cons_zero, Nat.reduceAdd]
            refine wM_val ?ufd6 rfl rfl Ext.refl (fun w' hD => ?hfd6) (fun phfd6 => ?nfd6)
            case hfd6 =>
              obtain ⟨⟨c0, c1, c2⟩, ⟨g0, g1, g2, g3, g4⟩, l0, l1, m0, m1⟩ := FX.out w' hD.1
              go_simp; rfl
            simp only [Act.put, List.setIfInBounds_toArray, List.set_cons_succ, List.set_cons_zero, Nat.reduceAdd]
            refine wM_val ?ufd7 rfl rfl Ext.refl (fun w' hD => ?hfd7) (fun phfd7 => ?nfd7)
            case hfd7 =>
              obtain ⟨⟨c0, c1, c2⟩, ⟨g0, g1, g2, g3, g4⟩, l0, l1, m0, m1⟩ := FX.out w' hD.1
              go_simp; rfl
            simp only [Act.put, List.setIfInBounds_toArray, List.set_cons_succ, List.set_cons_zero, Nat.reduceAdd]
            refine wM_val ?ufd8 rfl rfl Ext.refl (fun w' hD => ?hfd8) (fun phfd8 => ?nfd8)
            case hfd8 =>
              obtain ⟨⟨c0, c1, c2⟩, ⟨g0, g1, g2, g3, g4⟩, l0, l1, m0, m1⟩ := FX.out w' hD.1
              go_simp; rfl
            simp only [Act.put, List.setIfInBounds_toArray, List.set_cons_succ, List.set_cons_zero, Nat.reduceAdd]
            refine wM_val ?ufd9 rfl rfl Ext.refl (fun w' hD => ?hfd9) (fun phfd9 => ?nfd9)
            case hfd9 =>
              obtain ⟨⟨c0, c1, c2⟩, ⟨g0, g1, g2, g3, g4⟩, l0, l1, m0, m1⟩ := FX.out w' hD.1
              go_simp; rfl
            simp only [Act.put, List.setIfInBounds_toArray, List.set_cons_succ, List.set_cons_zero, Nat.reduceAdd]
            refine wM_val ?ufd10 rfl rfl Ext.refl (fun w' hD => ?hfd10) (fun phfd10 => ?nfd10)
            case hfd10 =>
              obtain ⟨⟨c0, c1, c2⟩, ⟨g0, g1, g2, g3, g4⟩, l0, l1, m0, m1⟩ := FX.out w' hD.1
              go_simp; rfl
            simp only [Act.put, List.setIfInBounds_toArray, List.set_cons_succ, List.set_cons_zero, Nat.reduceAdd]
            refine wM_op _ rfl rfl (opens_call ?ffd11 ?gfd11 (fun w' hD => ?hfd11) (fun w' hD => ?cfd11)) (fun v11 hv11 => ?nfd11)
            case hfd11 => go_simp; constructor <;> rfl
            case cfd11 =>
              refine (KL.out w').mono ?_
              rintro e w2 ⟨rfl, hb⟩
              exact ⟨_, rfl, hb, rfl⟩
            obtain ⟨_, -, -, rfl⟩ := hv11
            simp only [Act.put, List.setIfInBounds_toArray, List.set_cons_succ, List.set_cons_zero, Nat.reduceAdd]
            refine wM_op _ rfl rfl (opens_call ?ffd12 ?gfd12 (fun w' hD => ?hfd12) (fun w' hD => ?cfd12)) (fun v12 hv12 => ?nfd12)
            case hfd12 => go_simp; constructor <;> rfl
            case cfd12 =>
              refine (KC1.out w').mono ?_
              rintro e w2 ⟨rfl, hb⟩
              exact ⟨_, rfl, hb, rfl⟩
            obtain ⟨_, -, -, rfl⟩ := hv12
            simp only [Act.put, List.setIfInBounds_toArray, List.set_cons_succ, List.set_cons_zero, Nat.reduceAdd]
            refine wM_val ?ufd13 rfl rfl Ext.refl (fun w' hD => ?hfd13) (fun phfd13 => ?nfd13)
            case hfd13 =>
              obtain ⟨⟨c0, c1, c2⟩, ⟨g0, g1, g2, g3, g4⟩, l0, l1, m0, m1⟩ := FX.out w' hD.1
              go_simp; rfl
            simp only [Act.put, List.setIfInBounds_toArray, List.set_cons_succ, List.set_cons_zero, Nat.reduceAdd]
            refine wM_val ?ufd14 rfl rfl Ext.refl (fun w' hD => ?hfd14) (fun phfd14 => ?nfd14)
            case hfd14 =>
              obtain ⟨⟨c0, c1, c2⟩, ⟨g0, g1, g2, g3, g4⟩, l0, l1, m0, m1⟩ := FX.out w' hD.1
              go_simp; rfl
            simp only [Act.put, List.setIfInBounds_toArray, List.set_cons_succ, List.set_cons_zero, Nat.reduceAdd]
            refine wM_nil ?_
            intro w9 hw9 hF9
            clear hF9
            cases C1 with
            | false =>
              have HGA : Hid (gstO (lowsK h m (k + 1)) = if true = true then some lo else none) := by have q := HSL.out; simp only [if_true, HC1.out] at q; exact q
              clear KC1
              have h7 := (Below.block hw9 _ hlt7).trans h7
              have h8 := (Below.block hw9 _ hlt8).trans h8
              have bx := (Below.block hw9 _ hltx).trans bx
              have hv8 := hv.trans hw9
              obtain ⟨V8, hV8⟩ : ∃ V : World, V = w9 := ⟨_, rfl⟩
              subst hV8
              clear hlt7 hlt8 hltx hv FX KU1 HSL
              have hlt7 := (Array.getElem?_eq_some_iff.1 h7).1
              have hlt8 := (Array.getElem?_eq_some_iff.1 h8).1
              obtain ⟨V9, hV9⟩ : ∃ V : World, V = V8 := ⟨_, rfl⟩
              subst hV9
              have hv := hv8
              have FX : Hid (∀ w', Ext V9 w' → (w'.cell? ⟨w.heap.size, 0, none⟩ = some (.int .i64 h.mo) ∧ w'.cell? ⟨w.heap.size, 1, none⟩ = some (.int .i64 h.pk) ∧ w'.cell? ⟨w.heap.size, 2, none⟩ = some (.slice (some ⟨b, off, none⟩) N c)) ∧ (w'.cell? ⟨BX, 0, none⟩ = some (.int .i64 x.mo) ∧ w'.cell? ⟨BX, 1, none⟩ = some (.int .i64 x.sl) ∧ w'.cell? ⟨BX, 2, none⟩ = some (.int .i64 x.sh) ∧ w'.cell? ⟨BX, 3, none⟩ = some (.int .i64 x.ml) ∧ w'.cell? ⟨BX, 4, none⟩ = some (.int .i64 x.mh)) ∧ w'.cell? ⟨B7, 0, none⟩ = some (.int .i64 lo.1) ∧ w'.cell? ⟨B7, 1, none⟩ = some (.int .i64 lo.2) ∧ w'.cell? ⟨B7 + 1, 0, none⟩ = some (.int .i64 hi.1) ∧ w'.cell? ⟨B7 + 1, 1, none⟩ = some (.int .i64 hi.2)) := fun w' hw => by
                have hc := fun i u hu => hw.cell (rblk_cells (xs := [.int .i64 x.mo, .int .i64 x.sl, .int .i64 x.sh, .int .i64 x.ml, .int .i64 x.mh]) bx i u hu)
                obtain ⟨q0, q1, -⟩ := rat_cells h7
                obtain ⟨r0, r1, -⟩ := rat_cells h8
                exact ⟨FH.out w' (hv.trans hw), ⟨hc 0 _ rfl, hc 1 _ rfl, hc 2 _ rfl, hc 3 _ rfl, hc 4 _ rfl⟩, hw.cell q0, hw.cell q1, hw.cell r0, hw.cell r1⟩
              have KU2 : Hid (∀ w', Ext V9 w' → _) := fun w' hw => KU.out m x.mo w' (hv.trans hw)
              obtain ⟨U2, hU2⟩ : ∃ b, undH h m x.mo = b := ⟨_, rfl⟩
              rw [hU2] at KU2 HSU
              clear hU2
              go_upto_region 11 with fail
              cases U2 with
              | false =>
                refine wp_region_shut Ext (fun w' => Ext V9 w') (fun
                  | 4 => some (fun v _ => v = .bool false)
                  | _ => none) (by kernel_rfl) (by kernel_rfl) (fun _ _ h k => h.trans k) ?hTs3a (Ext.drew (Ext.refl V9)) ?_
                case hTs3a =>
                  intro i R hR
                  match i, hR with
                  | 4, hR => cases hR; exact fun _ _ _ h _ => h
                refine wM_val ?us3a0 rfl rfl Ext.refl (fun w' hD => ?hs3a0) (fun phs3a0 => ?ns3a0)
                case hs3a0 =>
                  obtain ⟨⟨c0, c1, c2⟩, ⟨g0, g1, g2, g3, g4⟩, l0, l1, m0, m1⟩ := FX.out w' hD.1
                  go_simp; rfl
                simp only [Act.put, List.setIfInBounds_toArray, List.set_cons_succ, List.set_cons_zero, Nat.reduceAdd]
                refine wM_val ?us3a1 rfl rfl Ext.refl (fun w' hD => ?hs3a1) (fun phs3a1 => ?ns3a1)
                case hs3a1 =>
                  obtain ⟨⟨c0, c1, c2⟩, ⟨g0, g1, g2, g3, g4⟩, l0, l1, m0, m1⟩ := FX.out w' hD.1
                  go_simp; rfl
                simp only [Act.put, List.setIfInBounds_toArray, List.set_cons_succ, List.set_cons_zero, Nat.reduceAdd]
                refine wM_val ?us3a2 rfl rfl Ext.refl (fun w' hD => ?hs3a2) (fun phs3a2 => ?ns3a2)
                case hs3a2 =>
                  obtain ⟨⟨c0, c1, c2⟩, ⟨g0, g1, g2, g3, g4⟩, l0, l1, m0, m1⟩ := FX.out w' hD.1
                  go_simp; rfl
                simp only [Act.put, List.setIfInBounds_toArray, List.set_cons_succ, List.set_cons_zero, Nat.reduceAdd]
                refine wM_val ?us3a3 rfl rfl Ext.refl (fun w' hD => ?hs3a3) (fun phs3a3 => ?ns3a3)
                case hs3a3 =>
                  obtain ⟨⟨c0, c1, c2⟩, ⟨g0, g1, g2, g3, g4⟩, l0, l1, m0, m1⟩ := FX.out w' hD.1
                  go_simp; rfl
                simp only [Act.put, List.setIfInBounds_toArray, List.set_cons_succ, List.set_cons_zero, Nat.reduceAdd]
                refine wM_op _ rfl rfl (opens_call ?fs3a4 ?gs3a4 (fun w' hD => ?hs3a4) (fun w' hD => ?cs3a4)) (fun v4 hv4 => ?ns3a4)
                case hs3a4 => go_simp; constructor <;> rfl
                case cs3a4 =>
                  refine (KU2.out w' hD.1).mono ?_
                  rintro e w2 ⟨rfl, hb⟩
                  exact ⟨_, rfl, hb, rfl⟩
                obtain ⟨_, -, -, rfl⟩ := hv4
                simp only [Act.put, List.setIfInBounds_toArray, List.set_cons_succ, List.set_cons_zero, Nat.reduceAdd]
                refine wM_val ?us3a5 rfl rfl Ext.refl (fun w' hD => ?hs3a5) (fun phs3a5 => ?ns3a5)
                case hs3a5 =>
                  obtain ⟨⟨c0, c1, c2⟩, ⟨g0, g1, g2, g3, g4⟩, l0, l1, m0, m1⟩ := FX.out w' hD.1
                  go_simp; rfl
                simp only [Act.put, List.setIfInBounds_toArray, List.set_cons_succ, List.set_cons_zero, Nat.reduceAdd]
                refine wM_skip rfl ?_
                simp only [Act.put, List.setIfInBounds_toArray, List.set_cons_succ, List.set_cons_zero, Nat.reduceAdd]
                refine wM_skip rfl ?_
                simp only [Act.put, List.setIfInBounds_toArray, List.set_cons_succ, List.set_cons_zero, Nat.reduceAdd]
                refine wM_skip rfl ?_
                simp only [Act.put, List.setIfInBounds_toArray, List.set_cons_succ, List.set_cons_zero, Nat.reduceAdd]
                refine wM_skip rfl ?_
                simp only [Act.put, List.setIfInBounds_toArray, List.set_cons_succ, List.set_cons_zero, Nat.reduceAdd]
                refine wM_skip rfl ?_
                simp only [Act.put, List.setIfInBounds_toArray, List.set_cons_succ, List.set_cons_zero, Nat.reduceAdd]
                refine wM_skip rfl ?_
                simp only [Act.put, List.setIfInBounds_toArray, List.set_cons_succ, List.set_cons_zero, Nat.reduceAdd]
                refine wM_skip rfl ?_
                simp only [Act.put, List.setIfInBounds_toArray, List.set_cons_succ, List.set_cons_zero, Nat.reduceAdd]
                refine wM_skip rfl ?_
                simp only [Act.put, List.setIfInBounds_toArray, List.set_cons_succ, List.set_cons_zero, Nat.reduceAdd]
                refine wM_val ?us3a14 rfl rfl Ext.refl (fun w' hD => ?hs3a14) (fun phs3a14 => ?ns3a14)
                case hs3a14 =>
                  obtain ⟨⟨c0, c1, c2⟩, ⟨g0, g1, g2, g3, g4⟩, l0, l1, m0, m1⟩ := FX.out w' hD.1
                  go_simp; rfl
                simp only [Act.put, List.setIfInBounds_toArray, List.set_cons_succ, List.set_cons_zero, Nat.reduceAdd]
                refine wM_nil ?_
                intro w9 hw9 hF9
                clear hF9
                have HLA : Hid (lstO (upsK h m (k + 1)) = if bh = true then some hi else none) := HSU.out
                have h7 := (Below.block hw9 _ hlt7).trans h7
                have h8 := (Below.block hw9 _ hlt8).trans h8
                have hv := hv.trans hw9
                clear FX KU2 HSU bx
                go_wp2
                go_roundw
                case rel => exact ⟨k + 1, lo, hi, true, bh, by omega, by go_num, rfl, rfl, HGA, HLA, hlo, hhi, h7, h8, hv⟩
                case measure => simp [intOf]; omega
              | true =>
                cases bh with
                | false =>
                  refine wp_region_shut Ext (fun w' => Ext V9 w') (fun
                    | 4 => some (fun v _ => v = .bool true)
                    | _ => none) (by kernel_rfl) (by kernel_rfl) (fun _ _ h k => h.trans k) ?hTs3b (Ext.drew (Ext.refl V9)) ?_
                  case hTs3b =>
                    intro i R hR
                    match i, hR with
                    | 4, hR => cases hR; exact fun _ _ _ h _ => h
                  refine wM_val ?us3b0 rfl rfl Ext.refl (fun w' hD => ?hs3b0) (fun phs3b0 => ?ns3b0)
                  case hs3b0 =>
                    obtain ⟨⟨c0, c1, c2⟩, ⟨g0, g1, g2, g3, g4⟩, l0, l1, m0, m1⟩ := FX.out w' hD.1
                    go_simp; rfl
                  simp only [Act.put, List.setIfInBounds_toArray, List.set_cons_succ, List.set_cons_zero, Nat.reduceAdd]
                  refine wM_val ?us3b1 rfl rfl Ext.refl (fun w' hD => ?hs3b1) (fun phs3b1 => ?ns3b1)
                  case hs3b1 =>
                    obtain ⟨⟨c0, c1, c2⟩, ⟨g0, g1, g2, g3, g4⟩, l0, l1, m0, m1⟩ := FX.out w' hD.1
                    go_simp; rfl
                  simp only [Act.put, List.setIfInBounds_toArray, List.set_cons_succ, List.set_cons_zero, Nat.reduceAdd]
                  refine wM_val ?us3b2 rfl rfl Ext.refl (fun w' hD => ?hs3b2) (fun phs3b2 => ?ns3b2)
                  case hs3b2 =>
                    obtain ⟨⟨c0, c1, c2⟩, ⟨g0, g1, g2, g3, g4⟩, l0, l1, m0, m1⟩ := FX.out w' hD.1
                    go_simp; rfl
                  simp only [Act.put, List.setIfInBounds_toArray, List.set_cons_succ, List.set_cons_zero, Nat.reduceAdd]
                  refine wM_val ?us3b3 rfl rfl Ext.refl (fun w' hD => ?hs3b3) (fun phs3b3 => ?ns3b3)
                  case hs3b3 =>
                    obtain ⟨⟨c0, c1, c2⟩, ⟨g0, g1, g2, g3, g4⟩, l0, l1, m0, m1⟩ := FX.out w' hD.1
                    go_simp; rfl
                  simp only [Act.put, List.setIfInBounds_toArray, List.set_cons_succ, List.set_cons_zero, Nat.reduceAdd]
                  refine wM_op _ rfl rfl (opens_call ?fs3b4 ?gs3b4 (fun w' hD => ?hs3b4) (fun w' hD => ?cs3b4)) (fun v4 hv4 => ?ns3b4)
                  case hs3b4 => go_simp; constructor <;> rfl
                  case cs3b4 =>
                    refine (KU2.out w' hD.1).mono ?_
                    rintro e w2 ⟨rfl, hb⟩
                    exact ⟨_, rfl, hb, rfl⟩
                  obtain ⟨_, -, -, rfl⟩ := hv4
                  simp only [Act.put, List.setIfInBounds_toArray, List.set_cons_succ, List.set_cons_zero, Nat.reduceAdd]
                  refine wM_val ?us3b5 rfl rfl Ext.refl (fun w' hD => ?hs3b5) (fun phs3b5 => ?ns3b5)
                  case hs3b5 =>
                    obtain ⟨⟨c0, c1, c2⟩, ⟨g0, g1, g2, g3, g4⟩, l0, l1, m0, m1⟩ := FX.out w' hD.1
                    go_simp; rfl
                  simp only [Act.put, List.setIfInBounds_toArray, List.set_cons_succ, List.set_cons_zero, Nat.reduceAdd]
                  refine wM_val ?us3b6 rfl rfl Ext.refl (fun w' hD => ?hs3b6) (fun phs3b6 => ?ns3b6)
                  case hs3b6 =>
                    obtain ⟨⟨c0, c1, c2⟩, ⟨g0, g1, g2, g3, g4⟩, l0, l1, m0, m1⟩ := FX.out w' hD.1
                    go_simp; rfl
                  simp only [Act.put, List.setIfInBounds_toArray, List.set_cons_succ, List.set_cons_zero, Nat.reduceAdd]
                  refine wM_val ?us3b7 rfl rfl Ext.refl (fun w' hD => ?hs3b7) (fun phs3b7 => ?ns3b7)
                  case hs3b7 =>
                    obtain ⟨⟨c0, c1, c2⟩, ⟨g0, g1, g2, g3, g4⟩, l0, l1, m0, m1⟩ := FX.out w' hD.1
                    go_simp; rfl
                  simp only [Act.put, List.setIfInBounds_toArray, List.set_cons_succ, List.set_cons_zero, Nat.reduceAdd]
                  refine wM_val ?us3b8 rfl rfl Ext.refl (fun w' hD => ?hs3b8) (fun phs3b8 => ?ns3b8)
                  case hs3b8 =>
                    obtain ⟨⟨c0, c1, c2⟩, ⟨g0, g1, g2, g3, g4⟩, l0, l1, m0, m1⟩ := FX.out w' hD.1
                    go_simp; rfl
                  simp only [Act.put, List.setIfInBounds_toArray, List.set_cons_succ, List.set_cons_zero, Nat.reduceAdd]
                  refine wM_skip rfl ?_
                  simp only [Act.put, List.setIfInBounds_toArray, List.set_cons_succ, List.set_cons_zero, Nat.reduceAdd]
                  refine wM_skip rfl ?_
                  simp only [Act.put, List.setIfInBounds_toArray, List.set_cons_succ, List.set_cons_zero, Nat.reduceAdd]
                  refine wM_skip rfl ?_
                  simp only [Act.put, List.setIfInBounds_toArray, List.set_cons_succ, List.set_cons_zero, Nat.reduceAdd]
                  refine wM_skip rfl ?_
                  simp only [Act.put, List.setIfInBounds_toArray, List.set_cons_succ, List.set_cons_zero, Nat.reduceAdd]
                  refine wM_val ?us3b13 rfl rfl Ext.refl (fun w' hD => ?hs3b13) (fun phs3b13 => ?ns3b13)
                  case hs3b13 =>
                    obtain ⟨⟨c0, c1, c2⟩, ⟨g0, g1, g2, g3, g4⟩, l0, l1, m0, m1⟩ := FX.out w' hD.1
                    go_simp; rfl
                  simp only [Act.put, List.setIfInBounds_toArray, List.set_cons_succ, List.set_cons_zero, Nat.reduceAdd]
                  refine wM_val ?us3b14 rfl rfl Ext.refl (fun w' hD => ?hs3b14) (fun phs3b14 => ?ns3b14)
                  case hs3b14 =>
                    obtain ⟨⟨c0, c1, c2⟩, ⟨g0, g1, g2, g3, g4⟩, l0, l1, m0, m1⟩ := FX.out w' hD.1
                    go_simp; rfl
                  simp only [Act.put, List.setIfInBounds_toArray, List.set_cons_succ, List.set_cons_zero, Nat.reduceAdd]
                  refine wM_nil ?_
                  intro w9 hw9 hF9
                  clear hF9
                  have HLA : Hid (lstO (upsK h m (k + 1)) = if true = true then some x.hi else none) := HSU.out
                  obtain ⟨d0, d1, d2⟩ := rat_cells ((Below.block hw9 _ hlt8).trans h8)
                  obtain ⟨⟨c0, c1, c2⟩, ⟨g0, g1, g2, g3, g4⟩, -⟩ := FX.out w9 hw9
                  have h79 := (Below.block hw9 _ hlt7).trans h7
                  have h89 := (Below.block hw9 _ hlt8).trans h8
                  have hv9 := hv.trans hw9
                  clear FX KU2 HSU
                  go_wp2_with fail
                  refine (KM.out w9).mono ?_
                  rintro e wa ⟨rfl, hxa⟩
                  have h7a := (Below.block hxa _ (Array.getElem?_eq_some_iff.1 h79).1).trans h79
                  have h8a := (Below.block hxa _ (Array.getElem?_eq_some_iff.1 h89).1).trans h89
                  have hva := hv9.trans hxa
                  obtain ⟨d0, d1, d2⟩ := rat_cells h8a
                  have h8b := rat_put h8a (.int .i64 x.hi.1) (.int .i64 x.hi.2)
                  have h7b : ((wa.setCell ⟨B7 + 1, 0, none⟩ (.int .i64 x.hi.1)).setCell ⟨B7 + 1, 1, none⟩ (.int .i64 x.hi.2)).heap[B7]? = some (.cells #[.int .i64 lo.1, .int .i64 lo.2] 43 (0, 0)) := by
                    rw [heap_setCell_ne2 (by show B7 ≠ B7 + 1; omega), heap_setCell_ne2 (by show B7 ≠ B7 + 1; omega)]; exact h7a
                  have hvb := Ext.setCell (Ext.setCell hva (p := ⟨B7 + 1, 0, none⟩) (by show W2.heap.size ≤ B7 + 1; have := HB7.out; omega) (.int .i64 x.hi.1)) (p := ⟨B7 + 1, 1, none⟩) (by show W2.heap.size ≤ B7 + 1; have := HB7.out; omega) (.int .i64 x.hi.2)
                  obtain ⟨wb, hwb⟩ : ∃ W, (wa.setCell ⟨B7 + 1, 0, none⟩ (.int .i64 x.hi.1)).setCell ⟨B7 + 1, 1, none⟩ (.int .i64 x.hi.2) = W := ⟨_, rfl⟩
                  rw [hwb] at h8b h7b hvb
                  have HWB := hid hwb
                  clear hwb h7a h8a hva h79 h89 hv9 c0 c1 c2 g0 g1 g2 g3 g4 bx hv h7 h8
                  go_wp2
                  try rw [HWB.out]
                  go_roundw
                  case rel => exact ⟨k + 1, lo, x.hi, true, true, by omega, by go_num, rfl, rfl, HGA, HLA, hlo, HSM.out.2, h7b, h8b, hvb⟩
                  case measure => simp [intOf]; omega
                | true =>
                  have KC2 := hid fun w' => less_any x.hi hi w' HSM.out.2 hhi
                  obtain ⟨C2, hC2⟩ : ∃ b, abv hi x.hi = b := ⟨_, rfl⟩
                  rw [hC2] at KC2
                  have HC2 := hid hC2
                  unfold rval at KC2
                  clear hC2
                  refine wp_region_shut Ext (fun w' => Ext V9 w') (fun
                    | 4 => some (fun v _ => v = .bool true) 
                    | 10 => some (fun v _ => v = .agg #[.int .i64 x.hi.1, .int .i64 x.hi.2]) 
                    | 12 => some (fun v _ => v = .bool C2)
                    | _ => none) (by kernel_rfl) (by kernel_rfl) (fun _ _ h k => h.trans k) ?hTs3d (Ext.drew (Ext.refl V9)) ?_
                  case hTs3d =>
                    intro i R hR
                    match i, hR with
                    | 4, hR => cases hR; exact fun _ _ _ h _ => h
                    | 10, hR => cases hR; exact fun _ _ _ h _ => h
                    | 12, hR => cases hR; exact fun _ _ _ h _ => h
                  refine wM_val ?us3d0 rfl rfl Ext.refl (fun w' hD => ?hs3d0) (fun phs3d0 => ?ns3d0)
                  case hs3d0 =>
                    obtain ⟨⟨c0, c1, c2⟩, ⟨g0, g1, g2, g3, g4⟩, l0, l1, m0, m1⟩ := FX.out w' hD.1
                    go_simp; rfl
                  simp only [Act.put, List.setIfInBounds_toArray, List.set_cons_succ, List.set_cons_zero, Nat.reduceAdd]
                  refine wM_val ?us3d1 rfl rfl Ext.refl (fun w' hD => ?hs3d1) (fun phs3d1 => ?ns3d1)
                  case hs3d1 =>
                    obtain ⟨⟨c0, c1, c2⟩, ⟨g0, g1, g2, g3, g4⟩, l0, l1, m0, m1⟩ := FX.out w' hD.1
                    go_simp; rfl
                  simp only [Act.put, List.setIfInBounds_toArray, List.set_cons_succ, List.set_cons_zero, Nat.reduceAdd]
                  refine wM_val ?us3d2 rfl rfl Ext.refl (fun w' hD => ?hs3d2) (fun phs3d2 => ?ns3d2)
                  case hs3d2 =>
                    obtain ⟨⟨c0, c1, c2⟩, ⟨g0, g1, g2, g3, g4⟩, l0, l1, m0, m1⟩ := FX.out w' hD.1
                    go_simp; rfl
                  simp only [Act.put, List.setIfInBounds_toArray, List.set_cons_succ, List.set_cons_zero, Nat.reduceAdd]
                  refine wM_val ?us3d3 rfl rfl Ext.refl (fun w' hD => ?hs3d3) (fun phs3d3 => ?ns3d3)
                  case hs3d3 =>
                    obtain ⟨⟨c0, c1, c2⟩, ⟨g0, g1, g2, g3, g4⟩, l0, l1, m0, m1⟩ := FX.out w' hD.1
                    go_simp; rfl
                  simp only [Act.put, List.setIfInBounds_toArray, List.set_cons_succ, List.set_cons_zero, Nat.reduceAdd]
                  refine wM_op _ rfl rfl (opens_call ?fs3d4 ?gs3d4 (fun w' hD => ?hs3d4) (fun w' hD => ?cs3d4)) (fun v4 hv4 => ?ns3d4)
                  case hs3d4 => go_simp; constructor <;> rfl
                  case cs3d4 =>
                    refine (KU2.out w' hD.1).mono ?_
                    rintro e w2 ⟨rfl, hb⟩
                    exact ⟨_, rfl, hb, rfl⟩
                  obtain ⟨_, -, -, rfl⟩ := hv4
                  simp only [Act.put, List.setIfInBounds_toArray, List.set_cons_succ, List.set_cons_zero, Nat.reduceAdd]
                  refine wM_val ?us3d5 rfl rfl Ext.refl (fun w' hD => ?hs3d5) (fun phs3d5 => ?ns3d5)
                  case hs3d5 =>
                    obtain ⟨⟨c0, c1, c2⟩, ⟨g0, g1, g2, g3, g4⟩, l0, l1, m0, m1⟩ := FX.out w' hD.1
                    go_simp; rfl
                  simp only [Act.put, List.setIfInBounds_toArray, List.set_cons_succ, List.set_cons_zero, Nat.reduceAdd]
                  refine wM_val ?us3d6 rfl rfl Ext.refl (fun w' hD => ?hs3d6) (fun phs3d6 => ?ns3d6)
                  case hs3d6 =>
                    obtain ⟨⟨c0, c1, c2⟩, ⟨g0, g1, g2, g3, g4⟩, l0, l1, m0, m1⟩ := FX.out w' hD.1
                    go_simp; rfl
                  simp only [Act.put, List.setIfInBounds_toArray, List.set_cons_succ, List.set_cons_zero, Nat.reduceAdd]
                  refine wM_val ?us3d7 rfl rfl Ext.refl (fun w' hD => ?hs3d7) (fun phs3d7 => ?ns3d7)
                  case hs3d7 =>
                    obtain ⟨⟨c0, c1, c2⟩, ⟨g0, g1, g2, g3, g4⟩, l0, l1, m0, m1⟩ := FX.out w' hD.1
                    go_simp; rfl
                  simp only [Act.put, List.setIfInBounds_toArray, List.set_cons_succ, List.set_cons_zero, Nat.reduceAdd]
                  refine wM_val ?us3d8 rfl rfl Ext.refl (fun w' hD => ?hs3d8) (fun phs3d8 => ?ns3d8)
                  case hs3d8 =>
                    obtain ⟨⟨c0, c1, c2⟩, ⟨g0, g1, g2, g3, g4⟩, l0, l1, m0, m1⟩ := FX.out w' hD.1
                    go_simp; rfl
                  simp only [Act.put, List.setIfInBounds_toArray, List.set_cons_succ, List.set_cons_zero, Nat.reduceAdd]
                  refine wM_val ?us3d9 rfl rfl Ext.refl (fun w' hD => ?hs3d9) (fun phs3d9 => ?ns3d9)
                  case hs3d9 =>
                    obtain ⟨⟨c0, c1, c2⟩, ⟨g0, g1, g2, g3, g4⟩, l0, l1, m0, m1⟩ := FX.out w' hD.1
                    go_simp; rfl
                  simp only [Act.put, List.setIfInBounds_toArray, List.set_cons_succ, List.set_cons_zero, Nat.reduceAdd]
                  refine wM_op _ rfl rfl (opens_call ?fs3d10 ?gs3d10 (fun w' hD => ?hs3d10) (fun w' hD => ?cs3d10)) (fun v10 hv10 => ?ns3d10)
                  case hs3d10 => go_simp; constructor <;> rfl
                  case cs3d10 =>
                    refine (KM.out w').mono ?_
                    rintro e w2 ⟨rfl, hb⟩
                    exact ⟨_, rfl, hb, rfl⟩
                  obtain ⟨_, -, -, rfl⟩ := hv10
                  simp only [Act.put, List.setIfInBounds_toArray, List.set_cons_succ, List.set_cons_zero, Nat.reduceAdd]
                  refine wM_val ?us3d11 rfl rfl Ext.refl (fun w' hD => ?hs3d11) (fun phs3d11 => ?ns3d11)
                  case hs3d11 =>
                    obtain ⟨⟨c0, c1, c2⟩, ⟨g0, g1, g2, g3, g4⟩, l0, l1, m0, m1⟩ := FX.out w' hD.1
                    go_simp; rfl
                  simp only [Act.put, List.setIfInBounds_toArray, List.set_cons_succ, List.set_cons_zero, Nat.reduceAdd]
                  refine wM_op _ rfl rfl (opens_call ?fs3d12 ?gs3d12 (fun w' hD => ?hs3d12) (fun w' hD => ?cs3d12)) (fun v12 hv12 => ?ns3d12)
                  case hs3d12 => go_simp; constructor <;> rfl
                  case cs3d12 =>
                    refine (KC2.out w').mono ?_
                    rintro e w2 ⟨rfl, hb⟩
                    exact ⟨_, rfl, hb, rfl⟩
                  obtain ⟨_, -, -, rfl⟩ := hv12
                  simp only [Act.put, List.setIfInBounds_toArray, List.set_cons_succ, List.set_cons_zero, Nat.reduceAdd]
                  refine wM_val ?us3d13 rfl rfl Ext.refl (fun w' hD => ?hs3d13) (fun phs3d13 => ?ns3d13)
                  case hs3d13 =>
                    obtain ⟨⟨c0, c1, c2⟩, ⟨g0, g1, g2, g3, g4⟩, l0, l1, m0, m1⟩ := FX.out w' hD.1
                    go_simp; rfl
                  simp only [Act.put, List.setIfInBounds_toArray, List.set_cons_succ, List.set_cons_zero, Nat.reduceAdd]
                  refine wM_val ?us3d14 rfl rfl Ext.refl (fun w' hD => ?hs3d14) (fun phs3d14 => ?ns3d14)
                  case hs3d14 =>
                    obtain ⟨⟨c0, c1, c2⟩, ⟨g0, g1, g2, g3, g4⟩, l0, l1, m0, m1⟩ := FX.out w' hD.1
                    go_simp; rfl
                  simp only [Act.put, List.setIfInBounds_toArray, List.set_cons_succ, List.set_cons_zero, Nat.reduceAdd]
                  refine wM_nil ?_
                  intro w9 hw9 hF9
                  clear hF9
                  cases C2 with
                  | false =>
                    have HLA : Hid (lstO (upsK h m (k + 1)) = if true = true then some hi else none) := by have q := HSU.out; simp only [if_true, HC2.out] at q; exact q
                    have h7 := (Below.block hw9 _ hlt7).trans h7
                    have h8 := (Below.block hw9 _ hlt8).trans h8
                    have hv := hv.trans hw9
                    clear FX KU2 HSU bx KC2
                    go_wp2
                    go_roundw
                    case rel => exact ⟨k + 1, lo, hi, true, true, by omega, by go_num, rfl, rfl, HGA, HLA, hlo, hhi, h7, h8, hv⟩
                    case measure => simp [intOf]; omega
                  | true =>
                    have HLA : Hid (lstO (upsK h m (k + 1)) = if true = true then some x.hi else none) := by have q := HSU.out; simp only [if_true, HC2.out] at q; exact q
                    clear KC2
                    obtain ⟨d0, d1, d2⟩ := rat_cells ((Below.block hw9 _ hlt8).trans h8)
                    obtain ⟨⟨c0, c1, c2⟩, ⟨g0, g1, g2, g3, g4⟩, -⟩ := FX.out w9 hw9
                    have h79 := (Below.block hw9 _ hlt7).trans h7
                    have h89 := (Below.block hw9 _ hlt8).trans h8
                    have hv9 := hv.trans hw9
                    clear FX KU2 HSU
                    go_wp2_with fail
                    refine (KM.out w9).mono ?_
                    rintro e wa ⟨rfl, hxa⟩
                    have h7a := (Below.block hxa _ (Array.getElem?_eq_some_iff.1 h79).1).trans h79
                    have h8a := (Below.block hxa _ (Array.getElem?_eq_some_iff.1 h89).1).trans h89
                    have hva := hv9.trans hxa
                    obtain ⟨d0, d1, d2⟩ := rat_cells h8a
                    have h8b := rat_put h8a (.int .i64 x.hi.1) (.int .i64 x.hi.2)
                    have h7b : ((wa.setCell ⟨B7 + 1, 0, none⟩ (.int .i64 x.hi.1)).setCell ⟨B7 + 1, 1, none⟩ (.int .i64 x.hi.2)).heap[B7]? = some (.cells #[.int .i64 lo.1, .int .i64 lo.2] 43 (0, 0)) := by
                      rw [heap_setCell_ne2 (by show B7 ≠ B7 + 1; omega), heap_setCell_ne2 (by show B7 ≠ B7 + 1; omega)]; exact h7a
                    have hvb := Ext.setCell (Ext.setCell hva (p := ⟨B7 + 1, 0, none⟩) (by show W2.heap.size ≤ B7 + 1; have := HB7.out; omega) (.int .i64 x.hi.1)) (p := ⟨B7 + 1, 1, none⟩) (by show W2.heap.size ≤ B7 + 1; have := HB7.out; omega) (.int .i64 x.hi.2)
                    obtain ⟨wb, hwb⟩ : ∃ W, (wa.setCell ⟨B7 + 1, 0, none⟩ (.int .i64 x.hi.1)).setCell ⟨B7 + 1, 1, none⟩ (.int .i64 x.hi.2) = W := ⟨_, rfl⟩
                    rw [hwb] at h8b h7b hvb
                    have HWB := hid hwb
                    clear hwb h7a h8a hva h79 h89 hv9 c0 c1 c2 g0 g1 g2 g3 g4 bx hv h7 h8
                    go_wp2
                    try rw [HWB.out]
                    go_roundw
                    case rel => exact ⟨k + 1, lo, x.hi, true, true, by omega, by go_num, rfl, rfl, HGA, HLA, hlo, HSM.out.2, h7b, h8b, hvb⟩
                    case measure => simp [intOf]; omega
            | true =>
              have HGA : Hid (gstO (lowsK h m (k + 1)) = if true = true then some x.lo else none) := by have q := HSL.out; simp only [if_true, HC1.out] at q; exact q
              clear KC1
              obtain ⟨d0, d1, d2⟩ := rat_cells ((Below.block hw9 _ hlt7).trans h7)
              obtain ⟨⟨c0, c1, c2⟩, ⟨g0, g1, g2, g3, g4⟩, -⟩ := FX.out w9 hw9
              have h79 := (Below.block hw9 _ hlt7).trans h7
              have h89 := (Below.block hw9 _ hlt8).trans h8
              have bx9 := (Below.block hw9 _ hltx).trans bx
              have hv9 := hv.trans hw9
              clear FX KU1 HSL
              go_wp2_with fail
              refine (KL.out w9).mono ?_
              rintro e wa ⟨rfl, hxa⟩
              have h7a := (Below.block hxa _ (Array.getElem?_eq_some_iff.1 h79).1).trans h79
              have h8a := (Below.block hxa _ (Array.getElem?_eq_some_iff.1 h89).1).trans h89
              have bxa := (Below.block hxa _ (Array.getElem?_eq_some_iff.1 bx9).1).trans bx9
              have hva := hv9.trans hxa
              have hza := hxa.size
              have hz9 := hw9.size
              obtain ⟨d0, d1, d2⟩ := rat_cells h7a
              have h7b := rat_put h7a (.int .i64 x.lo.1) (.int .i64 x.lo.2)
              have h8b : ((wa.setCell ⟨B7, 0, none⟩ (.int .i64 x.lo.1)).setCell ⟨B7, 1, none⟩ (.int .i64 x.lo.2)).heap[B7 + 1]? = some (.cells #[.int .i64 hi.1, .int .i64 hi.2] 43 (0, 0)) := by
                rw [heap_setCell_ne2 (by show B7 + 1 ≠ B7; omega), heap_setCell_ne2 (by show B7 + 1 ≠ B7; omega)]; exact h8a
              have bxb : ((wa.setCell ⟨B7, 0, none⟩ (.int .i64 x.lo.1)).setCell ⟨B7, 1, none⟩ (.int .i64 x.lo.2)).heap[BX]? = some (.cells #[.int .i64 x.mo, .int .i64 x.sl, .int .i64 x.sh, .int .i64 x.ml, .int .i64 x.mh] 92 (0, 0)) := by
                rw [heap_setCell_ne2 (by show BX ≠ B7; omega), heap_setCell_ne2 (by show BX ≠ B7; omega)]; exact bxa
              have hvb := Ext.setCell (Ext.setCell hva (p := ⟨B7, 0, none⟩) (by show W2.heap.size ≤ B7; have := HB7.out; omega) (.int .i64 x.lo.1)) (p := ⟨B7, 1, none⟩) (by show W2.heap.size ≤ B7; have := HB7.out; omega) (.int .i64 x.lo.2)
              obtain ⟨V8, hV8⟩ : ∃ W, (wa.setCell ⟨B7, 0, none⟩ (.int .i64 x.lo.1)).setCell ⟨B7, 1, none⟩ (.int .i64 x.lo.2) = W := ⟨_, rfl⟩
              rw [hV8] at h8b h7b hvb bxb
              have HV8 := hid hV8
              clear hV8 h7a h8a hva h79 h89 hv9 bxa bx9 bx hv h7 h8 hlt7 hlt8 hltx hza hz9
              have hv8 := hvb
              have h7 := h7b
              have h8 := h8b
              have bx := bxb
              have hlt7 := (Array.getElem?_eq_some_iff.1 h7).1
              have hlt8 := (Array.getElem?_eq_some_iff.1 h8).1
              clear hvb h7b h8b bxb
              go_upto_region 11 with fail
              try rw [HV8.out]
              clear HV8 c0 c1 c2 g0 g1 g2 g3 g4 d0 d1 d2
              obtain ⟨V9, hV9⟩ : ∃ V : World, V = V8 := ⟨_, rfl⟩
              subst hV9
              have hv := hv8
              have FX : Hid (∀ w', Ext V9 w' → (w'.cell? ⟨w.heap.size, 0, none⟩ = some (.int .i64 h.mo) ∧ w'.cell? ⟨w.heap.size, 1, none⟩ = some (.int .i64 h.pk) ∧ w'.cell? ⟨w.heap.size, 2, none⟩ = some (.slice (some ⟨b, off, none⟩) N c)) ∧ (w'.cell? ⟨BX, 0, none⟩ = some (.int .i64 x.mo) ∧ w'.cell? ⟨BX, 1, none⟩ = some (.int .i64 x.sl) ∧ w'.cell? ⟨BX, 2, none⟩ = some (.int .i64 x.sh) ∧ w'.cell? ⟨BX, 3, none⟩ = some (.int .i64 x.ml) ∧ w'.cell? ⟨BX, 4, none⟩ = some (.int .i64 x.mh)) ∧ w'.cell? ⟨B7, 0, none⟩ = some (.int .i64 x.lo.1) ∧ w'.cell? ⟨B7, 1, none⟩ = some (.int .i64 x.lo.2) ∧ w'.cell? ⟨B7 + 1, 0, none⟩ = some (.int .i64 hi.1) ∧ w'.cell? ⟨B7 + 1, 1, none⟩ = some (.int .i64 hi.2)) := fun w' hw => by
                have hc := fun i u hu => hw.cell (rblk_cells (xs := [.int .i64 x.mo, .int .i64 x.sl, .int .i64 x.sh, .int .i64 x.ml, .int .i64 x.mh]) bx i u hu)
                obtain ⟨q0, q1, -⟩ := rat_cells h7
                obtain ⟨r0, r1, -⟩ := rat_cells h8
                exact ⟨FH.out w' (hv.trans hw), ⟨hc 0 _ rfl, hc 1 _ rfl, hc 2 _ rfl, hc 3 _ rfl, hc 4 _ rfl⟩, hw.cell q0, hw.cell q1, hw.cell r0, hw.cell r1⟩
              have KU2 : Hid (∀ w', Ext V9 w' → _) := fun w' hw => KU.out m x.mo w' (hv.trans hw)
              obtain ⟨U2, hU2⟩ : ∃ b, undH h m x.mo = b := ⟨_, rfl⟩
              rw [hU2] at KU2 HSU
              clear hU2
              go_upto_region 11 with fail
              cases U2 with
              | false =>
                refine wp_region_shut Ext (fun w' => Ext V9 w') (fun
                  | 4 => some (fun v _ => v = .bool false)
                  | _ => none) (by kernel_rfl) (by kernel_rfl) (fun _ _ h k => h.trans k) ?hTs4a (Ext.drew (Ext.refl V9)) ?_
                case hTs4a =>
                  intro i R hR
                  match i, hR with
                  | 4, hR => cases hR; exact fun _ _ _ h _ => h
                refine wM_val ?us4a0 rfl rfl Ext.refl (fun w' hD => ?hs4a0) (fun phs4a0 => ?ns4a0)
                case hs4a0 =>
                  obtain ⟨⟨c0, c1, c2⟩, ⟨g0, g1, g2, g3, g4⟩, l0, l1, m0, m1⟩ := FX.out w' hD.1
                  go_simp; rfl
                simp only [Act.put, List.setIfInBounds_toArray, List.set_cons_succ, List.set_cons_zero, Nat.reduceAdd]
                refine wM_val ?us4a1 rfl rfl Ext.refl (fun w' hD => ?hs4a1) (fun phs4a1 => ?ns4a1)
                case hs4a1 =>
                  obtain ⟨⟨c0, c1, c2⟩, ⟨g0, g1, g2, g3, g4⟩, l0, l1, m0, m1⟩ := FX.out w' hD.1
                  go_simp; rfl
                simp only [Act.put, List.setIfInBounds_toArray, List.set_cons_succ, List.set_cons_zero, Nat.reduceAdd]
                refine wM_val ?us4a2 rfl rfl Ext.refl (fun w' hD => ?hs4a2) (fun phs4a2 => ?ns4a2)
                case hs4a2 =>
                  obtain ⟨⟨c0, c1, c2⟩, ⟨g0, g1, g2, g3, g4⟩, l0, l1, m0, m1⟩ := FX.out w' hD.1
                  go_simp; rfl
                simp only [Act.put, List.setIfInBounds_toArray, List.set_cons_succ, List.set_cons_zero, Nat.reduceAdd]
                refine wM_val ?us4a3 rfl rfl Ext.refl (fun w' hD => ?hs4a3) (fun phs4a3 => ?ns4a3)
                case hs4a3 =>
                  obtain ⟨⟨c0, c1, c2⟩, ⟨g0, g1, g2, g3, g4⟩, l0, l1, m0, m1⟩ := FX.out w' hD.1
                  go_simp; rfl
                simp only [Act.put, List.setIfInBounds_toArray, List.set_cons_succ, List.set_cons_zero, Nat.reduceAdd]
                refine wM_op _ rfl rfl (opens_call ?fs4a4 ?gs4a4 (fun w' hD => ?hs4a4) (fun w' hD => ?cs4a4)) (fun v4 hv4 => ?ns4a4)
                case hs4a4 => go_simp; constructor <;> rfl
                case cs4a4 =>
                  refine (KU2.out w' hD.1).mono ?_
                  rintro e w2 ⟨rfl, hb⟩
                  exact ⟨_, rfl, hb, rfl⟩
                obtain ⟨_, -, -, rfl⟩ := hv4
                simp only [Act.put, List.setIfInBounds_toArray, List.set_cons_succ, List.set_cons_zero, Nat.reduceAdd]
                refine wM_val ?us4a5 rfl rfl Ext.refl (fun w' hD => ?hs4a5) (fun phs4a5 => ?ns4a5)
                case hs4a5 =>
                  obtain ⟨⟨c0, c1, c2⟩, ⟨g0, g1, g2, g3, g4⟩, l0, l1, m0, m1⟩ := FX.out w' hD.1
                  go_simp; rfl
                simp only [Act.put, List.setIfInBounds_toArray, List.set_cons_succ, List.set_cons_zero, Nat.reduceAdd]
                refine wM_skip rfl ?_
                simp only [Act.put, List.setIfInBounds_toArray, List.set_cons_succ, List.set_cons_zero, Nat.reduceAdd]
                refine wM_skip rfl ?_
                simp only [Act.put, List.setIfInBounds_toArray, List.set_cons_succ, List.set_cons_zero, Nat.reduceAdd]
                refine wM_skip rfl ?_
                simp only [Act.put, List.setIfInBounds_toArray, List.set_cons_succ, List.set_cons_zero, Nat.reduceAdd]
                refine wM_skip rfl ?_
                simp only [Act.put, List.setIfInBounds_toArray, List.set_cons_succ, List.set_cons_zero, Nat.reduceAdd]
                refine wM_skip rfl ?_
                simp only [Act.put, List.setIfInBounds_toArray, List.set_cons_succ, List.set_cons_zero, Nat.reduceAdd]
                refine wM_skip rfl ?_
                simp only [Act.put, List.setIfInBounds_toArray, List.set_cons_succ, List.set_cons_zero, Nat.reduceAdd]
                refine wM_skip rfl ?_
                simp only [Act.put, List.setIfInBounds_toArray, List.set_cons_succ, List.set_cons_zero, Nat.reduceAdd]
                refine wM_skip rfl ?_
                simp only [Act.put, List.setIfInBounds_toArray, List.set_cons_succ, List.set_cons_zero, Nat.reduceAdd]
                refine wM_val ?us4a14 rfl rfl Ext.refl (fun w' hD => ?hs4a14) (fun phs4a14 => ?ns4a14)
                case hs4a14 =>
                  obtain ⟨⟨c0, c1, c2⟩, ⟨g0, g1, g2, g3, g4⟩, l0, l1, m0, m1⟩ := FX.out w' hD.1
                  go_simp; rfl
                simp only [Act.put, List.setIfInBounds_toArray, List.set_cons_succ, List.set_cons_zero, Nat.reduceAdd]
                refine wM_nil ?_
                intro w9 hw9 hF9
                clear hF9
                have HLA : Hid (lstO (upsK h m (k + 1)) = if bh = true then some hi else none) := HSU.out
                have h7 := (Below.block hw9 _ hlt7).trans h7
                have h8 := (Below.block hw9 _ hlt8).trans h8
                have hv := hv.trans hw9
                clear FX KU2 HSU bx
                go_wp2
                go_roundw
                case rel => exact ⟨k + 1, x.lo, hi, true, bh, by omega, by go_num, rfl, rfl, HGA, HLA, HSM.out.1, hhi, h7, h8, hv⟩
                case measure => simp [intOf]; omega
              | true =>
                cases bh with
                | false =>
                  refine wp_region_shut Ext (fun w' => Ext V9 w') (fun
                    | 4 => some (fun v _ => v = .bool true)
                    | _ => none) (by kernel_rfl) (by kernel_rfl) (fun _ _ h k => h.trans k) ?hTs4b (Ext.drew (Ext.refl V9)) ?_
                  case hTs4b =>
                    intro i R hR
                    match i, hR with
                    | 4, hR => cases hR; exact fun _ _ _ h _ => h
                  refine wM_val ?us4b0 rfl rfl Ext.refl (fun w' hD => ?hs4b0) (fun phs4b0 => ?ns4b0)
                  case hs4b0 =>
                    obtain ⟨⟨c0, c1, c2⟩, ⟨g0, g1, g2, g3, g4⟩, l0, l1, m0, m1⟩ := FX.out w' hD.1
                    go_simp; rfl
                  simp only [Act.put, List.setIfInBounds_toArray, List.set_cons_succ, List.set_cons_zero, Nat.reduceAdd]
                  refine wM_val ?us4b1 rfl rfl Ext.refl (fun w' hD => ?hs4b1) (fun phs4b1 => ?ns4b1)
                  case hs4b1 =>
                    obtain ⟨⟨c0, c1, c2⟩, ⟨g0, g1, g2, g3, g4⟩, l0, l1, m0, m1⟩ := FX.out w' hD.1
                    go_simp; rfl
                  simp only [Act.put, List.setIfInBounds_toArray, List.set_cons_succ, List.set_cons_zero, Nat.reduceAdd]
                  refine wM_val ?us4b2 rfl rfl Ext.refl (fun w' hD => ?hs4b2) (fun phs4b2 => ?ns4b2)
                  case hs4b2 =>
                    obtain ⟨⟨c0, c1, c2⟩, ⟨g0, g1, g2, g3, g4⟩, l0, l1, m0, m1⟩ := FX.out w' hD.1
                    go_simp; rfl
                  simp only [Act.put, List.setIfInBounds_toArray, List.set_cons_succ, List.set_cons_zero, Nat.reduceAdd]
                  refine wM_val ?us4b3 rfl rfl Ext.refl (fun w' hD => ?hs4b3) (fun phs4b3 => ?ns4b3)
                  case hs4b3 =>
                    obtain ⟨⟨c0, c1, c2⟩, ⟨g0, g1, g2, g3, g4⟩, l0, l1, m0, m1⟩ := FX.out w' hD.1
                    go_simp; rfl
                  simp only [Act.put, List.setIfInBounds_toArray, List.set_cons_succ, List.set_cons_zero, Nat.reduceAdd]
                  refine wM_op _ rfl rfl (opens_call ?fs4b4 ?gs4b4 (fun w' hD => ?hs4b4) (fun w' hD => ?cs4b4)) (fun v4 hv4 => ?ns4b4)
                  case hs4b4 => go_simp; constructor <;> rfl
                  case cs4b4 =>
                    refine (KU2.out w' hD.1).mono ?_
                    rintro e w2 ⟨rfl, hb⟩
                    exact ⟨_, rfl, hb, rfl⟩
                  obtain ⟨_, -, -, rfl⟩ := hv4
                  simp only [Act.put, List.setIfInBounds_toArray, List.set_cons_succ, List.set_cons_zero, Nat.reduceAdd]
                  refine wM_val ?us4b5 rfl rfl Ext.refl (fun w' hD => ?hs4b5) (fun phs4b5 => ?ns4b5)
                  case hs4b5 =>
                    obtain ⟨⟨c0, c1, c2⟩, ⟨g0, g1, g2, g3, g4⟩, l0, l1, m0, m1⟩ := FX.out w' hD.1
                    go_simp; rfl
                  simp only [Act.put, List.setIfInBounds_toArray, List.set_cons_succ, List.set_cons_zero, Nat.reduceAdd]
                  refine wM_val ?us4b6 rfl rfl Ext.refl (fun w' hD => ?hs4b6) (fun phs4b6 => ?ns4b6)
                  case hs4b6 =>
                    obtain ⟨⟨c0, c1, c2⟩, ⟨g0, g1, g2, g3, g4⟩, l0, l1, m0, m1⟩ := FX.out w' hD.1
                    go_simp; rfl
                  simp only [Act.put, List.setIfInBounds_toArray, List.set_cons_succ, List.set_cons_zero, Nat.reduceAdd]
                  refine wM_val ?us4b7 rfl rfl Ext.refl (fun w' hD => ?hs4b7) (fun phs4b7 => ?ns4b7)
                  case hs4b7 =>
                    obtain ⟨⟨c0, c1, c2⟩, ⟨g0, g1, g2, g3, g4⟩, l0, l1, m0, m1⟩ := FX.out w' hD.1
                    go_simp; rfl
                  simp only [Act.put, List.setIfInBounds_toArray, List.set_cons_succ, List.set_cons_zero, Nat.reduceAdd]
                  refine wM_val ?us4b8 rfl rfl Ext.refl (fun w' hD => ?hs4b8) (fun phs4b8 => ?ns4b8)
                  case hs4b8 =>
                    obtain ⟨⟨c0, c1, c2⟩, ⟨g0, g1, g2, g3, g4⟩, l0, l1, m0, m1⟩ := FX.out w' hD.1
                    go_simp; rfl
                  simp only [Act.put, List.setIfInBounds_toArray, List.set_cons_succ, List.set_cons_zero, Nat.reduceAdd]
                  refine wM_skip rfl ?_
                  simp only [Act.put, List.setIfInBounds_toArray, List.set_cons_succ, List.set_cons_zero, Nat.reduceAdd]
                  refine wM_skip rfl ?_
                  simp only [Act.put, List.setIfInBounds_toArray, List.set_cons_succ, List.set_cons_zero, Nat.reduceAdd]
                  refine wM_skip rfl ?_
                  simp only [Act.put, List.setIfInBounds_toArray, List.set_cons_succ, List.set_cons_zero, Nat.reduceAdd]
                  refine wM_skip rfl ?_
                  simp only [Act.put, List.setIfInBounds_toArray, List.set_cons_succ, List.set_cons_zero, Nat.reduceAdd]
                  refine wM_val ?us4b13 rfl rfl Ext.refl (fun w' hD => ?hs4b13) (fun phs4b13 => ?ns4b13)
                  case hs4b13 =>
                    obtain ⟨⟨c0, c1, c2⟩, ⟨g0, g1, g2, g3, g4⟩, l0, l1, m0, m1⟩ := FX.out w' hD.1
                    go_simp; rfl
                  simp only [Act.put, List.setIfInBounds_toArray, List.set_cons_succ, List.set_cons_zero, Nat.reduceAdd]
                  refine wM_val ?us4b14 rfl rfl Ext.refl (fun w' hD => ?hs4b14) (fun phs4b14 => ?ns4b14)
                  case hs4b14 =>
                    obtain ⟨⟨c0, c1, c2⟩, ⟨g0, g1, g2, g3, g4⟩, l0, l1, m0, m1⟩ := FX.out w' hD.1
                    go_simp; rfl
                  simp only [Act.put, List.setIfInBounds_toArray, List.set_cons_succ, List.set_cons_zero, Nat.reduceAdd]
                  refine wM_nil ?_
                  intro w9 hw9 hF9
                  clear hF9
                  have HLA : Hid (lstO (upsK h m (k + 1)) = if true = true then some x.hi else none) := HSU.out
                  obtain ⟨d0, d1, d2⟩ := rat_cells ((Below.block hw9 _ hlt8).trans h8)
                  obtain ⟨⟨c0, c1, c2⟩, ⟨g0, g1, g2, g3, g4⟩, -⟩ := FX.out w9 hw9
                  have h79 := (Below.block hw9 _ hlt7).trans h7
                  have h89 := (Below.block hw9 _ hlt8).trans h8
                  have hv9 := hv.trans hw9
                  clear FX KU2 HSU
                  go_wp2_with fail
                  refine (KM.out w9).mono ?_
                  rintro e wa ⟨rfl, hxa⟩
                  have h7a := (Below.block hxa _ (Array.getElem?_eq_some_iff.1 h79).1).trans h79
                  have h8a := (Below.block hxa _ (Array.getElem?_eq_some_iff.1 h89).1).trans h89
                  have hva := hv9.trans hxa
                  obtain ⟨d0, d1, d2⟩ := rat_cells h8a
                  have h8b := rat_put h8a (.int .i64 x.hi.1) (.int .i64 x.hi.2)
                  have h7b : ((wa.setCell ⟨B7 + 1, 0, none⟩ (.int .i64 x.hi.1)).setCell ⟨B7 + 1, 1, none⟩ (.int .i64 x.hi.2)).heap[B7]? = some (.cells #[.int .i64 x.lo.1, .int .i64 x.lo.2] 43 (0, 0)) := by
                    rw [heap_setCell_ne2 (by show B7 ≠ B7 + 1; omega), heap_setCell_ne2 (by show B7 ≠ B7 + 1; omega)]; exact h7a
                  have hvb := Ext.setCell (Ext.setCell hva (p := ⟨B7 + 1, 0, none⟩) (by show W2.heap.size ≤ B7 + 1; have := HB7.out; omega) (.int .i64 x.hi.1)) (p := ⟨B7 + 1, 1, none⟩) (by show W2.heap.size ≤ B7 + 1; have := HB7.out; omega) (.int .i64 x.hi.2)
                  obtain ⟨wb, hwb⟩ : ∃ W, (wa.setCell ⟨B7 + 1, 0, none⟩ (.int .i64 x.hi.1)).setCell ⟨B7 + 1, 1, none⟩ (.int .i64 x.hi.2) = W := ⟨_, rfl⟩
                  rw [hwb] at h8b h7b hvb
                  have HWB := hid hwb
                  clear hwb h7a h8a hva h79 h89 hv9 c0 c1 c2 g0 g1 g2 g3 g4 bx hv h7 h8
                  go_wp2
                  try rw [HWB.out]
                  go_roundw
                  case rel => exact ⟨k + 1, x.lo, x.hi, true, true, by omega, by go_num, rfl, rfl, HGA, HLA, HSM.out.1, HSM.out.2, h7b, h8b, hvb⟩
                  case measure => simp [intOf]; omega
                | true =>
                  have KC2 := hid fun w' => less_any x.hi hi w' HSM.out.2 hhi
                  obtain ⟨C2, hC2⟩ : ∃ b, abv hi x.hi = b := ⟨_, rfl⟩
                  rw [hC2] at KC2
                  have HC2 := hid hC2
                  unfold rval at KC2
                  clear hC2
                  refine wp_region_shut Ext (fun w' => Ext V9 w') (fun
                    | 4 => some (fun v _ => v = .bool true) 
                    | 10 => some (fun v _ => v = .agg #[.int .i64 x.hi.1, .int .i64 x.hi.2]) 
                    | 12 => some (fun v _ => v = .bool C2)
                    | _ => none) (by kernel_rfl) (by kernel_rfl) (fun _ _ h k => h.trans k) ?hTs4d (Ext.drew (Ext.refl V9)) ?_
                  case hTs4d =>
                    intro i R hR
                    match i, hR with
                    | 4, hR => cases hR; exact fun _ _ _ h _ => h
                    | 10, hR => cases hR; exact fun _ _ _ h _ => h
                    | 12, hR => cases hR; exact fun _ _ _ h _ => h
                  refine wM_val ?us4d0 rfl rfl Ext.refl (fun w' hD => ?hs4d0) (fun phs4d0 => ?ns4d0)
                  case hs4d0 =>
                    obtain ⟨⟨c0, c1, c2⟩, ⟨g0, g1, g2, g3, g4⟩, l0, l1, m0, m1⟩ := FX.out w' hD.1
                    go_simp; rfl
                  simp only [Act.put, List.setIfInBounds_toArray, List.set_cons_succ, List.set_cons_zero, Nat.reduceAdd]
                  refine wM_val ?us4d1 rfl rfl Ext.refl (fun w' hD => ?hs4d1) (fun phs4d1 => ?ns4d1)
                  case hs4d1 =>
                    obtain ⟨⟨c0, c1, c2⟩, ⟨g0, g1, g2, g3, g4⟩, l0, l1, m0, m1⟩ := FX.out w' hD.1
                    go_simp; rfl
                  simp only [Act.put, List.setIfInBounds_toArray, List.set_cons_succ, List.set_cons_zero, Nat.reduceAdd]
                  refine wM_val ?us4d2 rfl rfl Ext.refl (fun w' hD => ?hs4d2) (fun phs4d2 => ?ns4d2)
                  case hs4d2 =>
                    obtain ⟨⟨c0, c1, c2⟩, ⟨g0, g1, g2, g3, g4⟩, l0, l1, m0, m1⟩ := FX.out w' hD.1
                    go_simp; rfl
                  simp only [Act.put, List.setIfInBounds_toArray, List.set_cons_succ, List.set_cons_zero, Nat.reduceAdd]
                  refine wM_val ?us4d3 rfl rfl Ext.refl (fun w' hD => ?hs4d3) (fun phs4d3 => ?ns4d3)
                  case hs4d3 =>
                    obtain ⟨⟨c0, c1, c2⟩, ⟨g0, g1, g2, g3, g4⟩, l0, l1, m0, m1⟩ := FX.out w' hD.1
                    go_simp; rfl
                  simp only [Act.put, List.setIfInBounds_toArray, List.set_cons_succ, List.set_cons_zero, Nat.reduceAdd]
                  refine wM_op _ rfl rfl (opens_call ?fs4d4 ?gs4d4 (fun w' hD => ?hs4d4) (fun w' hD => ?cs4d4)) (fun v4 hv4 => ?ns4d4)
                  case hs4d4 => go_simp; constructor <;> rfl
                  case cs4d4 =>
                    refine (KU2.out w' hD.1).mono ?_
                    rintro e w2 ⟨rfl, hb⟩
                    exact ⟨_, rfl, hb, rfl⟩
                  obtain ⟨_, -, -, rfl⟩ := hv4
                  simp only [Act.put, List.setIfInBounds_toArray, List.set_cons_succ, List.set_cons_zero, Nat.reduceAdd]
                  refine wM_val ?us4d5 rfl rfl Ext.refl (fun w' hD => ?hs4d5) (fun phs4d5 => ?ns4d5)
                  case hs4d5 =>
                    obtain ⟨⟨c0, c1, c2⟩, ⟨g0, g1, g2, g3, g4⟩, l0, l1, m0, m1⟩ := FX.out w' hD.1
                    go_simp; rfl
                  simp only [Act.put, List.setIfInBounds_toArray, List.set_cons_succ, List.set_cons_zero, Nat.reduceAdd]
                  refine wM_val ?us4d6 rfl rfl Ext.refl (fun w' hD => ?hs4d6) (fun phs4d6 => ?ns4d6)
                  case hs4d6 =>
                    obtain ⟨⟨c0, c1, c2⟩, ⟨g0, g1, g2, g3, g4⟩, l0, l1, m0, m1⟩ := FX.out w' hD.1
                    go_simp; rfl
                  simp only [Act.put, List.setIfInBounds_toArray, List.set_cons_succ, List.set_cons_zero, Nat.reduceAdd]
                  refine wM_val ?us4d7 rfl rfl Ext.refl (fun w' hD => ?hs4d7) (fun phs4d7 => ?ns4d7)
                  case hs4d7 =>
                    obtain ⟨⟨c0, c1, c2⟩, ⟨g0, g1, g2, g3, g4⟩, l0, l1, m0, m1⟩ := FX.out w' hD.1
                    go_simp; rfl
                  simp only [Act.put, List.setIfInBounds_toArray, List.set_cons_succ, List.set_cons_zero, Nat.reduceAdd]
                  refine wM_val ?us4d8 rfl rfl Ext.refl (fun w' hD => ?hs4d8) (fun phs4d8 => ?ns4d8)
                  case hs4d8 =>
                    obtain ⟨⟨c0, c1, c2⟩, ⟨g0, g1, g2, g3, g4⟩, l0, l1, m0, m1⟩ := FX.out w' hD.1
                    go_simp; rfl
                  simp only [Act.put, List.setIfInBounds_toArray, List.set_cons_succ, List.set_cons_zero, Nat.reduceAdd]
                  refine wM_val ?us4d9 rfl rfl Ext.refl (fun w' hD => ?hs4d9) (fun phs4d9 => ?ns4d9)
                  case hs4d9 =>
                    obtain ⟨⟨c0, c1, c2⟩, ⟨g0, g1, g2, g3, g4⟩, l0, l1, m0, m1⟩ := FX.out w' hD.1
                    go_simp; rfl
                  simp only [Act.put, List.setIfInBounds_toArray, List.set_cons_succ, List.set_cons_zero, Nat.reduceAdd]
                  refine wM_op _ rfl rfl (opens_call ?fs4d10 ?gs4d10 (fun w' hD => ?hs4d10) (fun w' hD => ?cs4d10)) (fun v10 hv10 => ?ns4d10)
                  case hs4d10 => go_simp; constructor <;> rfl
                  case cs4d10 =>
                    refine (KM.out w').mono ?_
                    rintro e w2 ⟨rfl, hb⟩
                    exact ⟨_, rfl, hb, rfl⟩
                  obtain ⟨_, -, -, rfl⟩ := hv10
                  simp only [Act.put, List.setIfInBounds_toArray, List.set_cons_succ, List.set_cons_zero, Nat.reduceAdd]
                  refine wM_val ?us4d11 rfl rfl Ext.refl (fun w' hD => ?hs4d11) (fun phs4d11 => ?ns4d11)
                  case hs4d11 =>
                    obtain ⟨⟨c0, c1, c2⟩, ⟨g0, g1, g2, g3, g4⟩, l0, l1, m0, m1⟩ := FX.out w' hD.1
                    go_simp; rfl
                  simp only [Act.put, List.setIfInBounds_toArray, List.set_cons_succ, List.set_cons_zero, Nat.reduceAdd]
                  refine wM_op _ rfl rfl (opens_call ?fs4d12 ?gs4d12 (fun w' hD => ?hs4d12) (fun w' hD => ?cs4d12)) (fun v12 hv12 => ?ns4d12)
                  case hs4d12 => go_simp; constructor <;> rfl
                  case cs4d12 =>
                    refine (KC2.out w').mono ?_
                    rintro e w2 ⟨rfl, hb⟩
                    exact ⟨_, rfl, hb, rfl⟩
                  obtain ⟨_, -, -, rfl⟩ := hv12
                  simp only [Act.put, List.setIfInBounds_toArray, List.set_cons_succ, List.set_cons_zero, Nat.reduceAdd]
                  refine wM_val ?us4d13 rfl rfl Ext.refl (fun w' hD => ?hs4d13) (fun phs4d13 => ?ns4d13)
                  case hs4d13 =>
                    obtain ⟨⟨c0, c1, c2⟩, ⟨g0, g1, g2, g3, g4⟩, l0, l1, m0, m1⟩ := FX.out w' hD.1
                    go_simp; rfl
                  simp only [Act.put, List.setIfInBounds_toArray, List.set_cons_succ, List.set_cons_zero, Nat.reduceAdd]
                  refine wM_val ?us4d14 rfl rfl Ext.refl (fun w' hD => ?hs4d14) (fun phs4d14 => ?ns4d14)
                  case hs4d14 =>
                    obtain ⟨⟨c0, c1, c2⟩, ⟨g0, g1, g2, g3, g4⟩, l0, l1, m0, m1⟩ := FX.out w' hD.1
                    go_simp; rfl
                  simp only [Act.put, List.setIfInBounds_toArray, List.set_cons_succ, List.set_cons_zero, Nat.reduceAdd]
                  refine wM_nil ?_
                  intro w9 hw9 hF9
                  clear hF9
                  cases C2 with
                  | false =>
                    have HLA : Hid (lstO (upsK h m (k + 1)) = if true = true then some hi else none) := by have q := HSU.out; simp only [if_true, HC2.out] at q; exact q
                    have h7 := (Below.block hw9 _ hlt7).trans h7
                    have h8 := (Below.block hw9 _ hlt8).trans h8
                    have hv := hv.trans hw9
                    clear FX KU2 HSU bx KC2
                    go_wp2
                    go_roundw
                    case rel => exact ⟨k + 1, x.lo, hi, true, true, by omega, by go_num, rfl, rfl, HGA, HLA, HSM.out.1, hhi, h7, h8, hv⟩
                    case measure => simp [intOf]; omega
                  | true =>
                    have HLA : Hid (lstO (upsK h m (k + 1)) = if true = true then some x.hi else none) := by have q := HSU.out; simp only [if_true, HC2.out] at q; exact q
                    clear KC2
                    obtain ⟨d0, d1, d2⟩ := rat_cells ((Below.block hw9 _ hlt8).trans h8)
                    obtain ⟨⟨c0, c1, c2⟩, ⟨g0, g1, g2, g3, g4⟩, -⟩ := FX.out w9 hw9
                    have h79 := (Below.block hw9 _ hlt7).trans h7
                    have h89 := (Below.block hw9 _ hlt8).trans h8
                    have hv9 := hv.trans hw9
                    clear FX KU2 HSU
                    go_wp2_with fail
                    refine (KM.out w9).mono ?_
                    rintro e wa ⟨rfl, hxa⟩
                    have h7a := (Below.block hxa _ (Array.getElem?_eq_some_iff.1 h79).1).trans h79
                    have h8a := (Below.block hxa _ (Array.getElem?_eq_some_iff.1 h89).1).trans h89
                    have hva := hv9.trans hxa
                    obtain ⟨d0, d1, d2⟩ := rat_cells h8a
                    have h8b := rat_put h8a (.int .i64 x.hi.1) (.int .i64 x.hi.2)
                    have h7b : ((wa.setCell ⟨B7 + 1, 0, none⟩ (.int .i64 x.hi.1)).setCell ⟨B7 + 1, 1, none⟩ (.int .i64 x.hi.2)).heap[B7]? = some (.cells #[.int .i64 x.lo.1, .int .i64 x.lo.2] 43 (0, 0)) := by
                      rw [heap_setCell_ne2 (by show B7 ≠ B7 + 1; omega), heap_setCell_ne2 (by show B7 ≠ B7 + 1; omega)]; exact h7a
                    have hvb := Ext.setCell (Ext.setCell hva (p := ⟨B7 + 1, 0, none⟩) (by show W2.heap.size ≤ B7 + 1; have := HB7.out; omega) (.int .i64 x.hi.1)) (p := ⟨B7 + 1, 1, none⟩) (by show W2.heap.size ≤ B7 + 1; have := HB7.out; omega) (.int .i64 x.hi.2)
                    obtain ⟨wb, hwb⟩ : ∃ W, (wa.setCell ⟨B7 + 1, 0, none⟩ (.int .i64 x.hi.1)).setCell ⟨B7 + 1, 1, none⟩ (.int .i64 x.hi.2) = W := ⟨_, rfl⟩
                    rw [hwb] at h8b h7b hvb
                    have HWB := hid hwb
                    clear hwb h7a h8a hva h79 h89 hv9 c0 c1 c2 g0 g1 g2 g3 g4 bx hv h7 h8
                    go_wp2
                    try rw [HWB.out]
                    go_roundw
                    case rel => exact ⟨k + 1, x.lo, x.hi, true, true, by omega, by go_num, rfl, rfl, HGA, HLA, HSM.out.1, HSM.out.2, h7b, h8b, hvb⟩
                    case measure => simp [intOf]; omega
      · have hlt' : ¬ (k : Int) < (N : Int) := by omega
        obtain rfl : k = N := by omega
        have hg := HG0.out
        have hl := HL0.out
        rw [← HN.out, lowsK_end] at hg
        rw [← HN.out, upsK_end] at hl
        obtain ⟨e0, e1, -⟩ := rat_cells h7
        obtain ⟨f0, f1, -⟩ := rat_cells h8
        have HXX := hid hx
        cases bl with
        | false =>
          obtain ⟨rfl, rfl, rfl⟩ := HREF.out.2.1 (by first | rfl | trivial) (.inl (by rw [hg]; rfl))
          clear h7 h8 HREF hg hl HG0 HL0 b7 b8
          have hb4 := F4.out wr HXX.out
          have hb5 := F5.out wr HXX.out
          obtain ⟨z0, z1, zf⟩ := rat_cells hb4
          obtain ⟨d0, d1, df⟩ := rat_cells hb5
          obtain ⟨p1, p2, p3⟩ := rat_put2 hb4 hb5 (by omega) (hx2.trans HXX.out) (Nat.le_succ _) (by omega) (.int .i64 0) (.int .i64 0) (.int .i64 0) (.int .i64 0)
          obtain ⟨W9, hW9⟩ : ∃ W9, ((((wr.setCell ⟨w.heap.size + 1, 0, none⟩ (.int .i64 0)).setCell ⟨w.heap.size + 1, 1, none⟩ (.int .i64 0)).setCell ⟨w.heap.size + 1 + 1, 0, none⟩ (.int .i64 0)).setCell ⟨w.heap.size + 1 + 1, 1, none⟩ (.int .i64 0)) = W9 := ⟨_, rfl⟩
          have q1 : W9.heap[w.heap.size + 1]? = some (.cells #[.int .i64 0, .int .i64 0] 43 (0, 0)) := by rw [← hW9]; exact p1
          have q2 : W9.heap[w.heap.size + 1 + 1]? = some (.cells #[.int .i64 0, .int .i64 0] 43 (0, 0)) := by rw [← hW9]; exact p2
          have q3 : Ext w W9 := by rw [← hW9]; exact p3
          obtain ⟨k0, k1, -⟩ := rat_cells q1
          obtain ⟨l0, l1, -⟩ := rat_cells q2
          clear p1 p2 p3 q1 q2 hb4 hb5
          go_wp2
          try rw [hW9]
          refine bodyPost_ret (v := .tuple #[.agg #[.int .i64 0, .int .i64 0], .agg #[.int .i64 0, .int .i64 0], .int .i64 6]) ?_ rfl ⟨by skip; rfl, q3⟩
          simp [results, Try.results50, go_sem, k0, k1, l0, l1]
        | true =>
          cases bh with
          | false =>
            obtain ⟨rfl, rfl, rfl⟩ := HREF.out.2.1 (by first | rfl | trivial) (.inr (by rw [hl]; rfl))
            clear h7 h8 HREF hg hl HG0 HL0 b7 b8
            have hb4 := F4.out wr HXX.out
            have hb5 := F5.out wr HXX.out
            obtain ⟨z0, z1, zf⟩ := rat_cells hb4
            obtain ⟨d0, d1, df⟩ := rat_cells hb5
            obtain ⟨p1, p2, p3⟩ := rat_put2 hb4 hb5 (by omega) (hx2.trans HXX.out) (Nat.le_succ _) (by omega) (.int .i64 0) (.int .i64 0) (.int .i64 0) (.int .i64 0)
            obtain ⟨W9, hW9⟩ : ∃ W9, ((((wr.setCell ⟨w.heap.size + 1, 0, none⟩ (.int .i64 0)).setCell ⟨w.heap.size + 1, 1, none⟩ (.int .i64 0)).setCell ⟨w.heap.size + 1 + 1, 0, none⟩ (.int .i64 0)).setCell ⟨w.heap.size + 1 + 1, 1, none⟩ (.int .i64 0)) = W9 := ⟨_, rfl⟩
            have q1 : W9.heap[w.heap.size + 1]? = some (.cells #[.int .i64 0, .int .i64 0] 43 (0, 0)) := by rw [← hW9]; exact p1
            have q2 : W9.heap[w.heap.size + 1 + 1]? = some (.cells #[.int .i64 0, .int .i64 0] 43 (0, 0)) := by rw [← hW9]; exact p2
            have q3 : Ext w W9 := by rw [← hW9]; exact p3
            obtain ⟨k0, k1, -⟩ := rat_cells q1
            obtain ⟨l0, l1, -⟩ := rat_cells q2
            clear p1 p2 p3 q1 q2 hb4 hb5
            go_wp2
            try rw [hW9]
            refine bodyPost_ret (v := .tuple #[.agg #[.int .i64 0, .int .i64 0], .agg #[.int .i64 0, .int .i64 0], .int .i64 6]) ?_ rfl ⟨by skip; rfl, q3⟩
            simp [results, Try.results50, go_sem, k0, k1, l0, l1]
          | true =>
            obtain ⟨rfl, rfl, rfl⟩ := HREF.out.2.2 (by first | rfl | trivial) lo hi (by rw [hg]; rfl) (by rw [hl]; rfl)
            clear h7 h8 HREF hg hl HG0 HL0 b7 b8
            have hb4 := F4.out wr HXX.out
            have hb5 := F5.out wr HXX.out
            obtain ⟨z0, z1, zf⟩ := rat_cells hb4
            obtain ⟨d0, d1, df⟩ := rat_cells hb5
            obtain ⟨p1, p2, p3⟩ := rat_put2 hb4 hb5 (by omega) (hx2.trans HXX.out) (Nat.le_succ _) (by omega) (.int .i64 lo0.1) (.int .i64 lo0.2) (.int .i64 hi0.1) (.int .i64 hi0.2)
            obtain ⟨W9, hW9⟩ : ∃ W9, ((((wr.setCell ⟨w.heap.size + 1, 0, none⟩ (.int .i64 lo0.1)).setCell ⟨w.heap.size + 1, 1, none⟩ (.int .i64 lo0.2)).setCell ⟨w.heap.size + 1 + 1, 0, none⟩ (.int .i64 hi0.1)).setCell ⟨w.heap.size + 1 + 1, 1, none⟩ (.int .i64 hi0.2)).drew = W9 := ⟨_, rfl⟩
            have q1 : W9.heap[w.heap.size + 1]? = some (.cells #[.int .i64 lo0.1, .int .i64 lo0.2] 43 (0, 0)) := by rw [← hW9]; exact p1
            have q2 : W9.heap[w.heap.size + 1 + 1]? = some (.cells #[.int .i64 hi0.1, .int .i64 hi0.2] 43 (0, 0)) := by rw [← hW9]; exact p2
            have q3 : Ext w W9 := by rw [← hW9]; exact Ext.drew p3
            obtain ⟨k0, k1, -⟩ := rat_cells q1
            obtain ⟨l0, l1, -⟩ := rat_cells q2
            clear p1 p2 p3 q1 q2 hb4 hb5
            go_wp2
            go_region
            go_wp2
            try rw [hW9]
            refine bodyPost_ret (v := .tuple #[.agg #[.int .i64 lo0.1, .int .i64 lo0.2], .agg #[.int .i64 hi0.1, .int .i64 hi0.2], .int .i64 0]) ?_ rfl ⟨by skip; rfl, q3⟩
            simp [results, Try.results50, go_sem, k0, k1, l0, l1]
end Go.Proofs.Ytjnobdcbbboeeaa
