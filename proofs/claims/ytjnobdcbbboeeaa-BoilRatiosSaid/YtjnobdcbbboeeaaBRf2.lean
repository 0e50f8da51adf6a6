/- The walks of the reference's Check and Clashes of layer 8. Printed by my gen_brf2.py. -/
import Derived.Test.YtjnobdcbbboeeaaBRf1
namespace Go.Proofs.Ytjnobdcbbboeeaa
open Go Go.RowKit Go.Shelf
set_option linter.unusedVariables false
set_option linter.unusedSimpArgs false

theorem hall_take {α : Type} {p : α → Bool} {l : List α} {k : Nat} {x : α} (h : (l.take k).all p = true) (hx : l[k]? = some x) (hp : p x = true) : (l.take (k + 1)).all p = true := by
  rw [List.take_add_one, hx, List.all_append, h]
  simp [hp]
theorem hall_full {α : Type} {p : α → Bool} {l : List α} {k : Nat} (h : (l.take k).all p = true) (hk : l.length ≤ k) : l.all p = true := by
  rwa [List.take_of_length_le hk] at h
theorem hall_false {α : Type} {p : α → Bool} {l : List α} {k : Nat} {x : α} (hx : l[k]? = some x) (hp : p x = false) : l.all p = false := by
  rw [Bool.eq_false_iff]
  intro h
  have := List.all_eq_true.1 h x (List.mem_of_getElem? hx)
  rw [hp] at this; cases this
set_option maxRecDepth 100000 in
set_option maxHeartbeats 4000000 in
theorem refcheck_any (v : Value) (h : Hs) (w : World) (hr : HsR w v h) (hs : h.sized) :
    Calls Try.prog 37 #[v] w fun e w' => e = .returned (.int .i64 (checkH h)) ∧ Ext w w' := by
  obtain ⟨A, c, rfl, hrw, hcap⟩ := hr
  obtain ⟨W0, hW0⟩ : ∃ W0, w.alloc (.cells #[.int .i64 h.mo, .int .i64 h.pk, .slice A h.ws.length c] 75) = W0 := ⟨_, rfl⟩
  have hx0 : Ext w W0 := by rw [← hW0]; exact Ext.alloc (Ext.refl w) _
  have b0 : W0.heap[w.heap.size]? = some (.cells #[.int .i64 h.mo, .int .i64 h.pk, .slice A h.ws.length c] 75 (0, 0)) := by rw [← hW0]; exact heap_alloc_new w _
  have FH : Hid (∀ w', Ext W0 w' → w'.cell? ⟨w.heap.size, 0, none⟩ = some (.int .i64 h.mo) ∧ w'.cell? ⟨w.heap.size, 1, none⟩ = some (.int .i64 h.pk) ∧ w'.cell? ⟨w.heap.size, 2, none⟩ = some (.slice A h.ws.length c)) := fun w' hx => by
    obtain ⟨q0, q1, q2, -⟩ := rhouse_cells b0
    exact ⟨hx.cell q0, hx.cell q1, hx.cell q2⟩
  have HRW : Hid (∀ w', Ext W0 w' → Wgs w' A h.ws) := fun w' hx => Rows.ext hrw (hx0.trans hx)
  have HW0 := hid hW0
  obtain ⟨T, hT⟩ : ∃ T, checkH h = T := ⟨_, rfl⟩
  rw [hT]
  have HC : Hid (T = if (!inB h.mo 1 12 || decide (14 < h.ws.length)) = true then 2 else if (!moOK h h.pk || !h.ws.all fun w => moOK h w.mo) = true then 1 else if (!h.ws.all measW) = true then 3 else if (!h.ws.all ordW) = true then 4 else 0) := by unfold Hid; rw [← hT]; rfl
  clear hT hrw b0 hW0
  unfold Hs.sized at hs
  unfold hval
  go_enter Try.func37, Try.ntmps37
  go_upto_region 1 with fail
  rw [HW0.out]
  clear HW0
  have hx := Ext.refl W0
  obtain ⟨c0, c1, c2⟩ := FH.out W0 hx
  go_wp2_with fail
  refine (off_any _ _ _ _).mono ?_
  rintro e w1 ⟨rfl, rfl⟩
  cases q1 : inB h.mo 1 12
  · have HN2 : Hid (T = 2) := by unfold Hid; rw [HC.out, if_pos (by rw [q1]; rfl)]
    go_wp2
    go_ret
    exact ⟨ret_of (int_of HN2.out.symm), hx0⟩
  · by_cases q2 : 14 < h.ws.length
    · have q2' : (h.ws.length : Int) > 14 := by omega
      have HN2 : Hid (T = 2) := by unfold Hid; rw [HC.out, if_pos (by rw [decide_eq_true q2, Bool.or_true])]
      go_wp2
      go_ret
      exact ⟨ret_of (int_of HN2.out.symm), hx0⟩
    · have q2' : ¬ (h.ws.length : Int) > 14 := by omega
      have HA1 : Hid ((!inB h.mo 1 12 || decide (14 < h.ws.length)) = false) := by unfold Hid; rw [q1, decide_eq_false q2]; rfl
      have hmo := inB_iff.1 q1
      have e2 : IntKind.i64.wrap (h.mo - 1) = h.mo - 1 := IntWalk.i64_in _ ⟨by omega, by omega⟩
      clear q1
      go_wp2_with fail
      refine (off_any _ _ _ _).mono ?_
      rintro e w1 ⟨rfl, rfl⟩
      cases q3 : inB h.pk 0 (h.mo - 1)
      · have HN2 : Hid (T = 1) := by unfold Hid; rw [HC.out, HA1.out, if_neg (by simp), if_pos (by unfold moOK; rw [q3]; rfl)]
        go_wp2
        go_ret
        exact ⟨ret_of (int_of HN2.out.symm), hx0⟩
      · have HPK : Hid (moOK h h.pk = true) := q3
        clear q3
        go_wp2
        clear c0 c1 c2
        go_loopw [3] (fun i wr => ∃ k : Nat, k ≤ h.ws.length ∧ i = .int .i64 (k : Int) ∧ Ext W0 wr ∧ Hid ((h.ws.take k).all (fun w => moOK h w.mo) = true)) (fun i _ => h.ws.length - (intOf i).toNat)
        case atStart => exact ⟨0, Nat.zero_le _, rfl, hx, rfl⟩
        case round =>
          obtain ⟨k, hk, rfl, hx, HQ⟩ := hrel
          obtain ⟨c0, c1, c2⟩ := FH.out wr hx
          by_cases hlt : k < h.ws.length
          · have hlt' : (k : Int) < (h.ws.length : Int) := by omega
            obtain ⟨x, hxk⟩ := get_of_lt h.ws k hlt
            have HX := hid hxk
            obtain ⟨b, off, e1, g0, g1, g2, g3, g4⟩ := Wgs.at_ (HRW.out wr hx) hxk
            subst e1
            clear hxk
            have e2 : IntKind.i64.wrap (h.mo - 1) = h.mo - 1 := IntWalk.i64_in _ ⟨by omega, by omega⟩
            go_wp2
            go_quiet ((go_at_call 91; exact Calls.quiet_of_same ((off_any _ _ _ _).mono fun e w' h => ⟨h.1, h.2.symm⟩)))
            cases hq : inB x.mo 0 (h.mo - 1)
            · have HN2 : Hid (T = 1) := by
                unfold Hid
                rw [HC.out, HA1.out, if_neg (by simp), if_pos (by rw [hall_false (p := fun w => moOK h w.mo) HX.out (show moOK h x.mo = false from hq), Bool.not_false, Bool.or_true])]
              go_wp2
              go_ret
              exact ⟨ret_of (int_of HN2.out.symm), (hx0.trans hx).drewN _⟩
            · have HQ2 : Hid ((h.ws.take (k + 1)).all (fun w => moOK h w.mo) = true) := hall_take HQ.out HX.out (hq)
              clear HQ HX
              go_wp2
              go_roundw
              case rel => exact ⟨k + 1, by omega, by go_num, hx.drewN _, HQ2⟩
              case measure => simp [intOf]; omega
          · have hlt' : ¬ (k : Int) < (h.ws.length : Int) := by omega
            have HALL : Hid (h.ws.all (fun w => moOK h w.mo) = true) := hall_full HQ.out (by omega)
            clear HQ
            have HA2 : Hid ((!moOK h h.pk || !h.ws.all fun w => moOK h w.mo) = false) := by unfold Hid; rw [HPK.out, HALL.out]; rfl
            obtain ⟨wo, rfl⟩ : ∃ wo : World, wo = wr := ⟨_, rfl⟩
            go_wp2
            clear c0 c1 c2
            go_loopw [4] (fun i wr => ∃ k : Nat, k ≤ h.ws.length ∧ i = .int .i64 (k : Int) ∧ Ext W0 wr ∧ Hid ((h.ws.take k).all (measW) = true)) (fun i _ => h.ws.length - (intOf i).toNat)
            case atStart => exact ⟨0, Nat.zero_le _, rfl, hx, rfl⟩
            case round =>
              obtain ⟨k, hk, rfl, hx, HQ⟩ := hrel
              obtain ⟨c0, c1, c2⟩ := FH.out wr hx
              by_cases hlt : k < h.ws.length
              · have hlt' : (k : Int) < (h.ws.length : Int) := by omega
                obtain ⟨x, hxk⟩ := get_of_lt h.ws k hlt
                have HX := hid hxk
                obtain ⟨b, off, e1, g0, g1, g2, g3, g4⟩ := Wgs.at_ (HRW.out wr hx) hxk
                subst e1
                clear hxk
                go_upto_region 14 with fail
                obtain ⟨W6, hW6⟩ : ∃ W6, wr.alloc (.cells #[.int .i64 x.mo, .int .i64 x.sl, .int .i64 x.sh, .int .i64 x.ml, .int .i64 x.mh] 92) = W6 := ⟨_, rfl⟩
                have hx6 : Ext wr W6 := by rw [← hW6]; exact (Ext.refl _).alloc _
                have bx : W6.heap[wr.heap.size]? = some (.cells #[.int .i64 x.mo, .int .i64 x.sl, .int .i64 x.sh, .int .i64 x.ml, .int .i64 x.mh] 92 (0, 0)) := by rw [← hW6]; exact heap_alloc_new wr _
                try rw [hW6]
                clear hW6 c0 c1 c2 g0 g1 g2 g3 g4
                have hc := fun i u hu => rblk_cells (xs := [.int .i64 x.mo, .int .i64 x.sl, .int .i64 x.sh, .int .i64 x.ml, .int .i64 x.mh]) bx i u hu
                have g1 := hc 1 _ rfl
                have g2 := hc 2 _ rfl
                have g3 := hc 3 _ rfl
                have g4 := hc 4 _ rfl
                have hx7 := hx.trans hx6
                clear hc bx
                go_wp2_with fail
                refine (off_any _ _ _ _).mono ?_
                rintro e w1 ⟨rfl, rfl⟩
                cases q0 : inB x.sl 1 1000
                · have HN2 : Hid (T = 3) := by
                    unfold Hid
                    rw [HC.out, HA1.out, if_neg (by simp), HA2.out, if_neg (by simp), if_pos (by rw [hall_false (p := measW) HX.out (by unfold measW; simp [q0])]; rfl)]
                  go_wp2
                  go_ret
                  exact ⟨ret_of (int_of HN2.out.symm), hx0.trans hx7⟩
                · go_wp2_with fail
                  refine (off_any _ _ _ _).mono ?_
                  rintro e w1 ⟨rfl, rfl⟩
                  cases q1 : inB x.sh 1 1000
                  · have HN2 : Hid (T = 3) := by
                      unfold Hid
                      rw [HC.out, HA1.out, if_neg (by simp), HA2.out, if_neg (by simp), if_pos (by rw [hall_false (p := measW) HX.out (by unfold measW; simp [q1])]; rfl)]
                    go_wp2
                    go_ret
                    exact ⟨ret_of (int_of HN2.out.symm), hx0.trans hx7⟩
                  · go_wp2_with fail
                    refine (off_any _ _ _ _).mono ?_
                    rintro e w1 ⟨rfl, rfl⟩
                    cases q2 : inB x.ml 1 1000
                    · have HN2 : Hid (T = 3) := by
                        unfold Hid
                        rw [HC.out, HA1.out, if_neg (by simp), HA2.out, if_neg (by simp), if_pos (by rw [hall_false (p := measW) HX.out (by unfold measW; simp [q2])]; rfl)]
                      go_wp2
                      go_ret
                      exact ⟨ret_of (int_of HN2.out.symm), hx0.trans hx7⟩
                    · go_wp2_with fail
                      refine (off_any _ _ _ _).mono ?_
                      rintro e w1 ⟨rfl, rfl⟩
                      cases q3 : inB x.mh 1 1000
                      · have HN2 : Hid (T = 3) := by
                          unfold Hid
                          rw [HC.out, HA1.out, if_neg (by simp), HA2.out, if_neg (by simp), if_pos (by rw [hall_false (p := measW) HX.out (by unfold measW; simp [q3])]; rfl)]
                        go_wp2
                        go_ret
                        exact ⟨ret_of (int_of HN2.out.symm), hx0.trans hx7⟩
                      · have HQ2 : Hid ((h.ws.take (k + 1)).all (measW) = true) := hall_take HQ.out HX.out (by unfold measW; rw [q0, q1, q2, q3]; rfl)
                        clear HQ HX
                        go_wp2
                        go_roundw
                        case rel => exact ⟨k + 1, by omega, by go_num, hx7, HQ2⟩
                        case measure => simp [intOf]; omega
              · have hlt' : ¬ (k : Int) < (h.ws.length : Int) := by omega
                have HALL : Hid (h.ws.all (measW) = true) := hall_full HQ.out (by omega)
                clear HQ
                have HA3 : Hid ((!h.ws.all measW) = false) := by unfold Hid; rw [HALL.out]; rfl
                obtain ⟨wo, rfl⟩ : ∃ wo : World, wo = wr := ⟨_, rfl⟩
                go_wp2
                clear c0 c1 c2
                go_loopw [6] (fun i wr => ∃ k : Nat, k ≤ h.ws.length ∧ i = .int .i64 (k : Int) ∧ Ext W0 wr ∧ Hid ((h.ws.take k).all (ordW) = true)) (fun i _ => h.ws.length - (intOf i).toNat)
                case atStart => exact ⟨0, Nat.zero_le _, rfl, hx, rfl⟩
                case round =>
                  obtain ⟨k, hk, rfl, hx, HQ⟩ := hrel
                  obtain ⟨c0, c1, c2⟩ := FH.out wr hx
                  by_cases hlt : k < h.ws.length
                  · have hlt' : (k : Int) < (h.ws.length : Int) := by omega
                    obtain ⟨x, hxk⟩ := get_of_lt h.ws k hlt
                    have HX := hid hxk
                    obtain ⟨b, off, e1, g0, g1, g2, g3, g4⟩ := Wgs.at_ (HRW.out wr hx) hxk
                    subst e1
                    clear hxk
                    go_upto_region 20 with fail
                    obtain ⟨W6, hW6⟩ : ∃ W6, wr.alloc (.cells #[.int .i64 x.mo, .int .i64 x.sl, .int .i64 x.sh, .int .i64 x.ml, .int .i64 x.mh] 92) = W6 := ⟨_, rfl⟩
                    have hx6 : Ext wr W6 := by rw [← hW6]; exact (Ext.refl _).alloc _
                    have bx : W6.heap[wr.heap.size]? = some (.cells #[.int .i64 x.mo, .int .i64 x.sl, .int .i64 x.sh, .int .i64 x.ml, .int .i64 x.mh] 92 (0, 0)) := by rw [← hW6]; exact heap_alloc_new wr _
                    try rw [hW6]
                    clear hW6 c0 c1 c2 g0 g1 g2 g3 g4
                    have hc := fun i u hu => rblk_cells (xs := [.int .i64 x.mo, .int .i64 x.sl, .int .i64 x.sh, .int .i64 x.ml, .int .i64 x.mh]) bx i u hu
                    have g1 := hc 1 _ rfl
                    have g2 := hc 2 _ rfl
                    have g3 := hc 3 _ rfl
                    have g4 := hc 4 _ rfl
                    have hx7 := hx.trans hx6
                    clear hc bx
                    by_cases q1 : x.sl > x.sh
                    · have HN2 : Hid (T = 4) := by
                        unfold Hid
                        rw [HC.out, HA1.out, if_neg (by simp), HA2.out, if_neg (by simp), HA3.out, if_neg (by simp), if_pos (by rw [hall_false (p := ordW) HX.out (by unfold ordW; rw [decide_eq_false (by omega)]; rfl)]; rfl)]
                      go_wp2
                      go_ret
                      exact ⟨ret_of (int_of HN2.out.symm), hx0.trans hx7⟩
                    · by_cases q2 : x.ml > x.mh
                      · have HN2 : Hid (T = 4) := by
                          unfold Hid
                          rw [HC.out, HA1.out, if_neg (by simp), HA2.out, if_neg (by simp), HA3.out, if_neg (by simp), if_pos (by rw [hall_false (p := ordW) HX.out (by unfold ordW; rw [decide_eq_false (p := x.ml ≤ x.mh) (by omega), Bool.and_false])]; rfl)]
                        go_wp2
                        go_ret
                        exact ⟨ret_of (int_of HN2.out.symm), hx0.trans hx7⟩
                      · have HQ2 : Hid ((h.ws.take (k + 1)).all (ordW) = true) := hall_take HQ.out HX.out (by unfold ordW; rw [decide_eq_true (by omega), decide_eq_true (by omega)]; rfl)
                        clear HQ HX
                        go_wp2
                        go_roundw
                        case rel => exact ⟨k + 1, by omega, by go_num, hx7, HQ2⟩
                        case measure => simp [intOf]; omega
                  · have hlt' : ¬ (k : Int) < (h.ws.length : Int) := by omega
                    have HALL : Hid (h.ws.all (ordW) = true) := hall_full HQ.out (by omega)
                    clear HQ
                    have HN2 : Hid (T = 0) := by
                      unfold Hid
                      rw [HC.out, HA1.out, if_neg (by simp), HA2.out, if_neg (by simp), HA3.out, if_neg (by simp), HALL.out, if_neg (by simp)]
                    go_wp2
                    go_ret
                    exact ⟨ret_of (int_of HN2.out.symm), hx0.trans hx⟩
set_option maxRecDepth 100000 in
set_option maxHeartbeats 4000000 in
theorem refclashes_any (v : Value) (h : Hs) (a b : Nat) (w : World) (hr : HsR w v h) (ha : a < h.ws.length) (hb : b < h.ws.length) (hm : ∀ x ∈ h.ws, WgM x) :
    Calls Try.prog 45 #[v, .int .i64 (a : Int), .int .i64 (b : Int)] w fun e w' => e = .returned (.bool (claH h a b)) ∧ Ext w w' := by
  obtain ⟨A, c, rfl, hrw, hcap⟩ := hr
  obtain ⟨W0, hW0⟩ : ∃ W0, w.alloc (.cells #[.int .i64 h.mo, .int .i64 h.pk, .slice A h.ws.length c] 75) = W0 := ⟨_, rfl⟩
  have hx0 : Ext w W0 := by rw [← hW0]; exact Ext.alloc (Ext.refl w) _
  have b0 : W0.heap[w.heap.size]? = some (.cells #[.int .i64 h.mo, .int .i64 h.pk, .slice A h.ws.length c] 75 (0, 0)) := by rw [← hW0]; exact heap_alloc_new w _
  have FH : Hid (∀ w', Ext W0 w' → w'.cell? ⟨w.heap.size, 0, none⟩ = some (.int .i64 h.mo) ∧ w'.cell? ⟨w.heap.size, 1, none⟩ = some (.int .i64 h.pk) ∧ w'.cell? ⟨w.heap.size, 2, none⟩ = some (.slice A h.ws.length c)) := fun w' hx => by
    obtain ⟨q0, q1, q2, -⟩ := rhouse_cells b0
    exact ⟨hx.cell q0, hx.cell q1, hx.cell q2⟩
  have HRW : Hid (∀ w', Ext W0 w' → Wgs w' A h.ws) := fun w' hx => Rows.ext hrw (hx0.trans hx)
  have HW0 := hid hW0
  obtain ⟨x, hxa⟩ := get_of_lt h.ws a ha
  obtain ⟨y, hyb⟩ := get_of_lt h.ws b hb
  have hmx := hm x (List.mem_of_getElem? hxa)
  have hmy := hm y (List.mem_of_getElem? hyb)
  obtain ⟨b1, o1, e1, g0, g1, g2, g3, g4⟩ := Wgs.at_ (HRW.out W0 (Ext.refl _)) hxa
  obtain ⟨b2, o2, e2, k0, k1, k2, k3, k4⟩ := Wgs.at_ (HRW.out W0 (Ext.refl _)) hyb
  subst e1
  cases e2
  have hxe : wgAt h a = x := by unfold wgAt; rw [List.getD_eq_getElem?_getD, hxa]; rfl
  have hye : wgAt h b = y := by unfold wgAt; rw [List.getD_eq_getElem?_getD, hyb]; rfl
  have FX : Hid (∀ w', Ext W0 w' → (w'.cell? ⟨w.heap.size, 0, none⟩ = some (.int .i64 h.mo) ∧ w'.cell? ⟨w.heap.size, 1, none⟩ = some (.int .i64 h.pk) ∧ w'.cell? ⟨w.heap.size, 2, none⟩ = some (.slice (some ⟨b1, o1, none⟩) h.ws.length c)) ∧ (w'.cell? ⟨b1, o1 + a * 5, none⟩ = some (.int .i64 x.mo) ∧ w'.cell? ⟨b1, o1 + a * 5 + 1, none⟩ = some (.int .i64 x.sl) ∧ w'.cell? ⟨b1, o1 + a * 5 + 2, none⟩ = some (.int .i64 x.sh) ∧ w'.cell? ⟨b1, o1 + a * 5 + 3, none⟩ = some (.int .i64 x.ml) ∧ w'.cell? ⟨b1, o1 + a * 5 + 4, none⟩ = some (.int .i64 x.mh)) ∧ w'.cell? ⟨b1, o1 + b * 5, none⟩ = some (.int .i64 y.mo) ∧ w'.cell? ⟨b1, o1 + b * 5 + 1, none⟩ = some (.int .i64 y.sl) ∧ w'.cell? ⟨b1, o1 + b * 5 + 2, none⟩ = some (.int .i64 y.sh) ∧ w'.cell? ⟨b1, o1 + b * 5 + 3, none⟩ = some (.int .i64 y.ml) ∧ w'.cell? ⟨b1, o1 + b * 5 + 4, none⟩ = some (.int .i64 y.mh)) := fun w' hx =>
    ⟨FH.out w' hx, ⟨hx.cell g0, hx.cell g1, hx.cell g2, hx.cell g3, hx.cell g4⟩, hx.cell k0, hx.cell k1, hx.cell k2, hx.cell k3, hx.cell k4⟩
  have KU : Hid (∀ w', Ext W0 w' → _) := fun w' hx => refunder_any (hval h (some ⟨b1, o1, none⟩) c) h x.mo y.mo w' ⟨_, c, rfl, HRW.out w' hx, hcap⟩
  have KL := hid fun w' => refleast_any x w' hmx
  have KM := hid fun w' => refmost_any y w' hmy
  have KB := hid fun w' => less_any y.hi x.lo w' (wgM_sm hmy).2.2 (wgM_sm hmx).2.1
  have HV : Hid (claH h a b = (undH h x.mo y.mo && abv x.lo y.hi)) := by unfold Hid claH; rw [hxe, hye]
  obtain ⟨U, hU⟩ : ∃ U, undH h x.mo y.mo = U := ⟨_, rfl⟩
  obtain ⟨B, hB⟩ : ∃ B, abv x.lo y.hi = B := ⟨_, rfl⟩
  rw [hU] at KU HV
  rw [hB] at KB HV
  unfold hval at KU
  unfold Wg.val rval at KL KM
  unfold rval at KB
  have hla : (a : Int) < (h.ws.length : Int) := by omega
  have hlb : (b : Int) < (h.ws.length : Int) := by omega
  clear hU hB hxe hye hxa hyb hmx hmy hm hrw b0 hW0 g0 g1 g2 g3 g4 k0 k1 k2 k3 k4 FH HRW
  unfold hval
  go_enter Try.func45, Try.ntmps45
  go_upto_region 1 with fail
  rw [HW0.out]
  clear HW0
  cases U
  · refine wp_region_shut Ext (fun w' => Ext W0 w') (fun
      | 13 => some (fun v _ => v = .bool false)
      | _ => none) (by kernel_rfl) (by kernel_rfl) (fun _ _ h k => h.trans k) ?hTa (Ext.drew (Ext.refl W0)) ?_
    case hTa =>
      intro i R hR
      match i, hR with
      | 13, hR => cases hR; exact fun _ _ _ h _ => h
    refine wM_val ?ua0 rfl rfl Ext.refl (fun w' hD => ?ha0) (fun pha0 => ?na0)
    case ha0 =>
      obtain ⟨⟨c0, c1, c2⟩, ⟨g0, g1, g2, g3, g4⟩, k0, k1, k2, k3, k4⟩ := FX.out w' hD.1
      go_simp; rfl
    simp only [Act.put, List.setIfInBounds_toArray, List.set_cons_succ, List.set_cons_zero, Nat.reduceAdd]
    refine wM_val ?ua1 rfl rfl Ext.refl (fun w' hD => ?ha1) (fun pha1 => ?na1)
    case ha1 =>
      obtain ⟨⟨c0, c1, c2⟩, ⟨g0, g1, g2, g3, g4⟩, k0, k1, k2, k3, k4⟩ := FX.out w' hD.1
      go_simp; rfl
    simp only [Act.put, List.setIfInBounds_toArray, List.set_cons_succ, List.set_cons_zero, Nat.reduceAdd]
    refine wM_val ?ua2 rfl rfl Ext.refl (fun w' hD => ?ha2) (fun pha2 => ?na2)
    case ha2 =>
      obtain ⟨⟨c0, c1, c2⟩, ⟨g0, g1, g2, g3, g4⟩, k0, k1, k2, k3, k4⟩ := FX.out w' hD.1
      go_simp; rfl
    simp only [Act.put, List.setIfInBounds_toArray, List.set_cons_succ, List.set_cons_zero, Nat.reduceAdd]
    refine wM_val ?ua3 rfl rfl Ext.refl (fun w' hD => ?ha3) (fun pha3 => ?na3)
    case ha3 =>
      obtain ⟨⟨c0, c1, c2⟩, ⟨g0, g1, g2, g3, g4⟩, k0, k1, k2, k3, k4⟩ := FX.out w' hD.1
      go_simp; rfl
    simp only [Act.put, List.setIfInBounds_toArray, List.set_cons_succ, List.set_cons_zero, Nat.reduceAdd]
    refine wM_val ?ua4 rfl rfl Ext.refl (fun w' hD => ?ha4) (fun pha4 => ?na4)
    case ha4 =>
      obtain ⟨⟨c0, c1, c2⟩, ⟨g0, g1, g2, g3, g4⟩, k0, k1, k2, k3, k4⟩ := FX.out w' hD.1
      go_simp; rfl
    simp only [Act.put, List.setIfInBounds_toArray, List.set_cons_succ, List.set_cons_zero, Nat.reduceAdd]
    refine wM_val ?ua5 rfl rfl Ext.refl (fun w' hD => ?ha5) (fun pha5 => ?na5)
    case ha5 =>
      obtain ⟨⟨c0, c1, c2⟩, ⟨g0, g1, g2, g3, g4⟩, k0, k1, k2, k3, k4⟩ := FX.out w' hD.1
      go_simp; rfl
    simp only [Act.put, List.setIfInBounds_toArray, List.set_cons_succ, List.set_cons_zero, Nat.reduceAdd]
    refine wM_val ?ua6 rfl rfl Ext.refl (fun w' hD => ?ha6) (fun pha6 => ?na6)
    case ha6 =>
      obtain ⟨⟨c0, c1, c2⟩, ⟨g0, g1, g2, g3, g4⟩, k0, k1, k2, k3, k4⟩ := FX.out w' hD.1
      go_simp; rfl
    simp only [Act.put, List.setIfInBounds_toArray, List.set_cons_succ, List.set_cons_zero, Nat.reduceAdd]
    refine wM_val ?ua7 rfl rfl Ext.refl (fun w' hD => ?ha7) (fun pha7 => ?na7)
    case ha7 =>
      obtain ⟨⟨c0, c1, c2⟩, ⟨g0, g1, g2, g3, g4⟩, k0, k1, k2, k3, k4⟩ := FX.out w' hD.1
      go_simp; rfl
    simp only [Act.put, List.setIfInBounds_toArray, List.set_cons_succ, List.set_cons_zero, Nat.reduceAdd]
    refine wM_val ?ua8 rfl rfl Ext.refl (fun w' hD => ?ha8) (fun pha8 => ?na8)
    case ha8 =>
      obtain ⟨⟨c0, c1, c2⟩, ⟨g0, g1, g2, g3, g4⟩, k0, k1, k2, k3, k4⟩ := FX.out w' hD.1
      go_simp; rfl
    simp only [Act.put, List.setIfInBounds_toArray, List.set_cons_succ, List.set_cons_zero, Nat.reduceAdd]
    refine wM_val ?ua9 rfl rfl Ext.refl (fun w' hD => ?ha9) (fun pha9 => ?na9)
    case ha9 =>
      obtain ⟨⟨c0, c1, c2⟩, ⟨g0, g1, g2, g3, g4⟩, k0, k1, k2, k3, k4⟩ := FX.out w' hD.1
      go_simp; rfl
    simp only [Act.put, List.setIfInBounds_toArray, List.set_cons_succ, List.set_cons_zero, Nat.reduceAdd]
    refine wM_val ?ua10 rfl rfl Ext.refl (fun w' hD => ?ha10) (fun pha10 => ?na10)
    case ha10 =>
      obtain ⟨⟨c0, c1, c2⟩, ⟨g0, g1, g2, g3, g4⟩, k0, k1, k2, k3, k4⟩ := FX.out w' hD.1
      go_simp; rfl
    simp only [Act.put, List.setIfInBounds_toArray, List.set_cons_succ, List.set_cons_zero, Nat.reduceAdd]
    refine wM_val ?ua11 rfl rfl Ext.refl (fun w' hD => ?ha11) (fun pha11 => ?na11)
    case ha11 =>
      obtain ⟨⟨c0, c1, c2⟩, ⟨g0, g1, g2, g3, g4⟩, k0, k1, k2, k3, k4⟩ := FX.out w' hD.1
      go_simp; rfl
    simp only [Act.put, List.setIfInBounds_toArray, List.set_cons_succ, List.set_cons_zero, Nat.reduceAdd]
    refine wM_val ?ua12 rfl rfl Ext.refl (fun w' hD => ?ha12) (fun pha12 => ?na12)
    case ha12 =>
      obtain ⟨⟨c0, c1, c2⟩, ⟨g0, g1, g2, g3, g4⟩, k0, k1, k2, k3, k4⟩ := FX.out w' hD.1
      go_simp; rfl
    simp only [Act.put, List.setIfInBounds_toArray, List.set_cons_succ, List.set_cons_zero, Nat.reduceAdd]
    refine wM_op _ rfl rfl (opens_call ?fa13 ?ga13 (fun w' hD => ?ha13) (fun w' hD => ?ca13)) (fun v13 hv13 => ?na13)
    case ha13 => go_simp; constructor <;> rfl
    case ca13 =>
      refine (KU.out w' hD.1).mono ?_
      rintro e w2 ⟨rfl, hb⟩
      exact ⟨_, rfl, hb, rfl⟩
    obtain ⟨_, -, -, rfl⟩ := hv13
    simp only [Act.put, List.setIfInBounds_toArray, List.set_cons_succ, List.set_cons_zero, Nat.reduceAdd]
    refine wM_val ?ua14 rfl rfl Ext.refl (fun w' hD => ?ha14) (fun pha14 => ?na14)
    case ha14 =>
      obtain ⟨⟨c0, c1, c2⟩, ⟨g0, g1, g2, g3, g4⟩, k0, k1, k2, k3, k4⟩ := FX.out w' hD.1
      go_simp; rfl
    simp only [Act.put, List.setIfInBounds_toArray, List.set_cons_succ, List.set_cons_zero, Nat.reduceAdd]
    refine wM_skip rfl ?_
    simp only [Act.put, List.setIfInBounds_toArray, List.set_cons_succ, List.set_cons_zero, Nat.reduceAdd]
    refine wM_skip rfl ?_
    simp only [Act.put, List.setIfInBounds_toArray, List.set_cons_succ, List.set_cons_zero, Nat.reduceAdd]
    refine wM_skip rfl ?_
    simp only [Act.put, List.setIfInBounds_toArray, List.set_cons_succ, List.set_cons_zero, Nat.reduceAdd]
    refine wM_skip rfl ?_
    simp only [Act.put, List.setIfInBounds_toArray, List.set_cons_succ, List.set_cons_zero, Nat.reduceAdd]
    refine wM_skip rfl ?_
    simp only [Act.put, List.setIfInBounds_toArray, List.set_cons_succ, List.set_cons_zero, Nat.reduceAdd]
    refine wM_skip rfl ?_
    simp only [Act.put, List.setIfInBounds_toArray, List.set_cons_succ, List.set_cons_zero, Nat.reduceAdd]
    refine wM_skip rfl ?_
    simp only [Act.put, List.setIfInBounds_toArray, List.set_cons_succ, List.set_cons_zero, Nat.reduceAdd]
    refine wM_skip rfl ?_
    simp only [Act.put, List.setIfInBounds_toArray, List.set_cons_succ, List.set_cons_zero, Nat.reduceAdd]
    refine wM_skip rfl ?_
    simp only [Act.put, List.setIfInBounds_toArray, List.set_cons_succ, List.set_cons_zero, Nat.reduceAdd]
    refine wM_skip rfl ?_
    simp only [Act.put, List.setIfInBounds_toArray, List.set_cons_succ, List.set_cons_zero, Nat.reduceAdd]
    refine wM_skip rfl ?_
    simp only [Act.put, List.setIfInBounds_toArray, List.set_cons_succ, List.set_cons_zero, Nat.reduceAdd]
    refine wM_skip rfl ?_
    simp only [Act.put, List.setIfInBounds_toArray, List.set_cons_succ, List.set_cons_zero, Nat.reduceAdd]
    refine wM_skip rfl ?_
    simp only [Act.put, List.setIfInBounds_toArray, List.set_cons_succ, List.set_cons_zero, Nat.reduceAdd]
    refine wM_val ?ua28 rfl rfl Ext.refl (fun w' hD => ?ha28) (fun pha28 => ?na28)
    case ha28 =>
      obtain ⟨⟨c0, c1, c2⟩, ⟨g0, g1, g2, g3, g4⟩, k0, k1, k2, k3, k4⟩ := FX.out w' hD.1
      go_simp; rfl
    simp only [Act.put, List.setIfInBounds_toArray, List.set_cons_succ, List.set_cons_zero, Nat.reduceAdd]
    refine wM_val ?ua29 rfl rfl Ext.refl (fun w' hD => ?ha29) (fun pha29 => ?na29)
    case ha29 =>
      obtain ⟨⟨c0, c1, c2⟩, ⟨g0, g1, g2, g3, g4⟩, k0, k1, k2, k3, k4⟩ := FX.out w' hD.1
      go_simp; rfl
    simp only [Act.put, List.setIfInBounds_toArray, List.set_cons_succ, List.set_cons_zero, Nat.reduceAdd]
    refine wM_nil ?_
    intro w9 hw9 hF9
    clear hF9
    go_wp2
    go_ret
    exact ⟨ret_of (bool_of (by rw [HV.out]; rfl)), hx0.trans hw9⟩
  · refine wp_region_shut Ext (fun w' => Ext W0 w') (fun
      | 13 => some (fun v _ => v = .bool true) 
      | 20 => some (fun v _ => v = .agg #[.int .i64 y.hi.1, .int .i64 y.hi.2]) 
      | 26 => some (fun v _ => v = .agg #[.int .i64 x.lo.1, .int .i64 x.lo.2]) 
      | 27 => some (fun v _ => v = .bool B)
      | _ => none) (by kernel_rfl) (by kernel_rfl) (fun _ _ h k => h.trans k) ?hTb (Ext.drew (Ext.refl W0)) ?_
    case hTb =>
      intro i R hR
      match i, hR with
      | 13, hR => cases hR; exact fun _ _ _ h _ => h
      | 20, hR => cases hR; exact fun _ _ _ h _ => h
      | 26, hR => cases hR; exact fun _ _ _ h _ => h
      | 27, hR => cases hR; exact fun _ _ _ h _ => h
    refine wM_val ?ub0 rfl rfl Ext.refl (fun w' hD => ?hb0) (fun phb0 => ?nb0)
    case hb0 =>
      obtain ⟨⟨c0, c1, c2⟩, ⟨g0, g1, g2, g3, g4⟩, k0, k1, k2, k3, k4⟩ := FX.out w' hD.1
      go_simp; rfl
    simp only [Act.put, List.setIfInBounds_toArray, List.set_cons_succ, List.set_cons_zero, Nat.reduceAdd]
    refine wM_val ?ub1 rfl rfl Ext.refl (fun w' hD => ?hb1) (fun phb1 => ?nb1)
    case hb1 =>
      obtain ⟨⟨c0, c1, c2⟩, ⟨g0, g1, g2, g3, g4⟩, k0, k1, k2, k3, k4⟩ := FX.out w' hD.1
      go_simp; rfl
    simp only [Act.put, List.setIfInBounds_toArray, List.set_cons_succ, List.set_cons_zero, Nat.reduceAdd]
    refine wM_val ?ub2 rfl rfl Ext.refl (fun w' hD => ?hb2) (fun phb2 => ?nb2)
    case hb2 =>
      obtain ⟨⟨c0, c1, c2⟩, ⟨g0, g1, g2, g3, g4⟩, k0, k1, k2, k3, k4⟩ := FX.out w' hD.1
      go_simp; rfl
    simp only [Act.put, List.setIfInBounds_toArray, List.set_cons_succ, List.set_cons_zero, Nat.reduceAdd]
    refine wM_val ?ub3 rfl rfl Ext.refl (fun w' hD => ?hb3) (fun phb3 => ?nb3)
    case hb3 =>
      obtain ⟨⟨c0, c1, c2⟩, ⟨g0, g1, g2, g3, g4⟩, k0, k1, k2, k3, k4⟩ := FX.out w' hD.1
      go_simp; rfl
    simp only [Act.put, List.setIfInBounds_toArray, List.set_cons_succ, List.set_cons_zero, Nat.reduceAdd]
    refine wM_val ?ub4 rfl rfl Ext.refl (fun w' hD => ?hb4) (fun phb4 => ?nb4)
    case hb4 =>
      obtain ⟨⟨c0, c1, c2⟩, ⟨g0, g1, g2, g3, g4⟩, k0, k1, k2, k3, k4⟩ := FX.out w' hD.1
      go_simp; rfl
    simp only [Act.put, List.setIfInBounds_toArray, List.set_cons_succ, List.set_cons_zero, Nat.reduceAdd]
    refine wM_val ?ub5 rfl rfl Ext.refl (fun w' hD => ?hb5) (fun phb5 => ?nb5)
    case hb5 =>
      obtain ⟨⟨c0, c1, c2⟩, ⟨g0, g1, g2, g3, g4⟩, k0, k1, k2, k3, k4⟩ := FX.out w' hD.1
      go_simp; rfl
    simp only [Act.put, List.setIfInBounds_toArray, List.set_cons_succ, List.set_cons_zero, Nat.reduceAdd]
    refine wM_val ?ub6 rfl rfl Ext.refl (fun w' hD => ?hb6) (fun phb6 => ?nb6)
    case hb6 =>
      obtain ⟨⟨c0, c1, c2⟩, ⟨g0, g1, g2, g3, g4⟩, k0, k1, k2, k3, k4⟩ := FX.out w' hD.1
      go_simp; rfl
    simp only [Act.put, List.setIfInBounds_toArray, List.set_cons_succ, List.set_cons_zero, Nat.reduceAdd]
    refine wM_val ?ub7 rfl rfl Ext.refl (fun w' hD => ?hb7) (fun phb7 => ?nb7)
    case hb7 =>
      obtain ⟨⟨c0, c1, c2⟩, ⟨g0, g1, g2, g3, g4⟩, k0, k1, k2, k3, k4⟩ := FX.out w' hD.1
      go_simp; rfl
    simp only [Act.put, List.setIfInBounds_toArray, List.set_cons_succ, List.set_cons_zero, Nat.reduceAdd]
    refine wM_val ?ub8 rfl rfl Ext.refl (fun w' hD => ?hb8) (fun phb8 => ?nb8)
    case hb8 =>
      obtain ⟨⟨c0, c1, c2⟩, ⟨g0, g1, g2, g3, g4⟩, k0, k1, k2, k3, k4⟩ := FX.out w' hD.1
      go_simp; rfl
    simp only [Act.put, List.setIfInBounds_toArray, List.set_cons_succ, List.set_cons_zero, Nat.reduceAdd]
    refine wM_val ?ub9 rfl rfl Ext.refl (fun w' hD => ?hb9) (fun phb9 => ?nb9)
    case hb9 =>
      obtain ⟨⟨c0, c1, c2⟩, ⟨g0, g1, g2, g3, g4⟩, k0, k1, k2, k3, k4⟩ := FX.out w' hD.1
      go_simp; rfl
    simp only [Act.put, List.setIfInBounds_toArray, List.set_cons_succ, List.set_cons_zero, Nat.reduceAdd]
    refine wM_val ?ub10 rfl rfl Ext.refl (fun w' hD => ?hb10) (fun phb10 => ?nb10)
    case hb10 =>
      obtain ⟨⟨c0, c1, c2⟩, ⟨g0, g1, g2, g3, g4⟩, k0, k1, k2, k3, k4⟩ := FX.out w' hD.1
      go_simp; rfl
    simp only [Act.put, List.setIfInBounds_toArray, List.set_cons_succ, List.set_cons_zero, Nat.reduceAdd]
    refine wM_val ?ub11 rfl rfl Ext.refl (fun w' hD => ?hb11) (fun phb11 => ?nb11)
    case hb11 =>
      obtain ⟨⟨c0, c1, c2⟩, ⟨g0, g1, g2, g3, g4⟩, k0, k1, k2, k3, k4⟩ := FX.out w' hD.1
      go_simp; rfl
    simp only [Act.put, List.setIfInBounds_toArray, List.set_cons_succ, List.set_cons_zero, Nat.reduceAdd]
    refine wM_val ?ub12 rfl rfl Ext.refl (fun w' hD => ?hb12) (fun phb12 => ?nb12)
    case hb12 =>
      obtain ⟨⟨c0, c1, c2⟩, ⟨g0, g1, g2, g3, g4⟩, k0, k1, k2, k3, k4⟩ := FX.out w' hD.1
      go_simp; rfl
    simp only [Act.put, List.setIfInBounds_toArray, List.set_cons_succ, List.set_cons_zero, Nat.reduceAdd]
    refine wM_op _ rfl rfl (opens_call ?fb13 ?gb13 (fun w' hD => ?hb13) (fun w' hD => ?cb13)) (fun v13 hv13 => ?nb13)
    case hb13 => go_simp; constructor <;> rfl
    case cb13 =>
      refine (KU.out w' hD.1).mono ?_
      rintro e w2 ⟨rfl, hb⟩
      exact ⟨_, rfl, hb, rfl⟩
    obtain ⟨_, -, -, rfl⟩ := hv13
    simp only [Act.put, List.setIfInBounds_toArray, List.set_cons_succ, List.set_cons_zero, Nat.reduceAdd]
    refine wM_val ?ub14 rfl rfl Ext.refl (fun w' hD => ?hb14) (fun phb14 => ?nb14)
    case hb14 =>
      obtain ⟨⟨c0, c1, c2⟩, ⟨g0, g1, g2, g3, g4⟩, k0, k1, k2, k3, k4⟩ := FX.out w' hD.1
      go_simp; rfl
    simp only [Act.put, List.setIfInBounds_toArray, List.set_cons_succ, List.set_cons_zero, Nat.reduceAdd]
    refine wM_val ?ub15 rfl rfl Ext.refl (fun w' hD => ?hb15) (fun phb15 => ?nb15)
    case hb15 =>
      obtain ⟨⟨c0, c1, c2⟩, ⟨g0, g1, g2, g3, g4⟩, k0, k1, k2, k3, k4⟩ := FX.out w' hD.1
      go_simp; rfl
    simp only [Act.put, List.setIfInBounds_toArray, List.set_cons_succ, List.set_cons_zero, Nat.reduceAdd]
    refine wM_val ?ub16 rfl rfl Ext.refl (fun w' hD => ?hb16) (fun phb16 => ?nb16)
    case hb16 =>
      obtain ⟨⟨c0, c1, c2⟩, ⟨g0, g1, g2, g3, g4⟩, k0, k1, k2, k3, k4⟩ := FX.out w' hD.1
      go_simp; rfl
    simp only [Act.put, List.setIfInBounds_toArray, List.set_cons_succ, List.set_cons_zero, Nat.reduceAdd]
    refine wM_val ?ub17 rfl rfl Ext.refl (fun w' hD => ?hb17) (fun phb17 => ?nb17)
    case hb17 =>
      obtain ⟨⟨c0, c1, c2⟩, ⟨g0, g1, g2, g3, g4⟩, k0, k1, k2, k3, k4⟩ := FX.out w' hD.1
      go_simp; rfl
    simp only [Act.put, List.setIfInBounds_toArray, List.set_cons_succ, List.set_cons_zero, Nat.reduceAdd]
    refine wM_val ?ub18 rfl rfl Ext.refl (fun w' hD => ?hb18) (fun phb18 => ?nb18)
    case hb18 =>
      obtain ⟨⟨c0, c1, c2⟩, ⟨g0, g1, g2, g3, g4⟩, k0, k1, k2, k3, k4⟩ := FX.out w' hD.1
      go_simp; rfl
    simp only [Act.put, List.setIfInBounds_toArray, List.set_cons_succ, List.set_cons_zero, Nat.reduceAdd]
    refine wM_val ?ub19 rfl rfl Ext.refl (fun w' hD => ?hb19) (fun phb19 => ?nb19)
    case hb19 =>
      obtain ⟨⟨c0, c1, c2⟩, ⟨g0, g1, g2, g3, g4⟩, k0, k1, k2, k3, k4⟩ := FX.out w' hD.1
      go_simp; rfl
    simp only [Act.put, List.setIfInBounds_toArray, List.set_cons_succ, List.set_cons_zero, Nat.reduceAdd]
    refine wM_op _ rfl rfl (opens_call ?fb20 ?gb20 (fun w' hD => ?hb20) (fun w' hD => ?cb20)) (fun v20 hv20 => ?nb20)
    case hb20 => go_simp; constructor <;> rfl
    case cb20 =>
      refine (KM.out w').mono ?_
      rintro e w2 ⟨rfl, hb⟩
      exact ⟨_, rfl, hb, rfl⟩
    obtain ⟨_, -, -, rfl⟩ := hv20
    simp only [Act.put, List.setIfInBounds_toArray, List.set_cons_succ, List.set_cons_zero, Nat.reduceAdd]
    refine wM_val ?ub21 rfl rfl Ext.refl (fun w' hD => ?hb21) (fun phb21 => ?nb21)
    case hb21 =>
      obtain ⟨⟨c0, c1, c2⟩, ⟨g0, g1, g2, g3, g4⟩, k0, k1, k2, k3, k4⟩ := FX.out w' hD.1
      go_simp; rfl
    simp only [Act.put, List.setIfInBounds_toArray, List.set_cons_succ, List.set_cons_zero, Nat.reduceAdd]
    refine wM_val ?ub22 rfl rfl Ext.refl (fun w' hD => ?hb22) (fun phb22 => ?nb22)
    case hb22 =>
      obtain ⟨⟨c0, c1, c2⟩, ⟨g0, g1, g2, g3, g4⟩, k0, k1, k2, k3, k4⟩ := FX.out w' hD.1
      go_simp; rfl
    simp only [Act.put, List.setIfInBounds_toArray, List.set_cons_succ, List.set_cons_zero, Nat.reduceAdd]
    refine wM_val ?ub23 rfl rfl Ext.refl (fun w' hD => ?hb23) (fun phb23 => ?nb23)
    case hb23 =>
      obtain ⟨⟨c0, c1, c2⟩, ⟨g0, g1, g2, g3, g4⟩, k0, k1, k2, k3, k4⟩ := FX.out w' hD.1
      go_simp; rfl
    simp only [Act.put, List.setIfInBounds_toArray, List.set_cons_succ, List.set_cons_zero, Nat.reduceAdd]
    refine wM_val ?ub24 rfl rfl Ext.refl (fun w' hD => ?hb24) (fun phb24 => ?nb24)
    case hb24 =>
      obtain ⟨⟨c0, c1, c2⟩, ⟨g0, g1, g2, g3, g4⟩, k0, k1, k2, k3, k4⟩ := FX.out w' hD.1
      go_simp; rfl
    simp only [Act.put, List.setIfInBounds_toArray, List.set_cons_succ, List.set_cons_zero, Nat.reduceAdd]
    refine wM_val ?ub25 rfl rfl Ext.refl (fun w' hD => ?hb25) (fun phb25 => ?nb25)
    case hb25 =>
      obtain ⟨⟨c0, c1, c2⟩, ⟨g0, g1, g2, g3, g4⟩, k0, k1, k2, k3, k4⟩ := FX.out w' hD.1
      go_simp; rfl
    simp only [Act.put, List.setIfInBounds_toArray, List.set_cons_succ, List.set_cons_zero, Nat.reduceAdd]
    refine wM_op _ rfl rfl (opens_call ?fb26 ?gb26 (fun w' hD => ?hb26) (fun w' hD => ?cb26)) (fun v26 hv26 => ?nb26)
    case hb26 => go_simp; constructor <;> rfl
    case cb26 =>
      refine (KL.out w').mono ?_
      rintro e w2 ⟨rfl, hb⟩
      exact ⟨_, rfl, hb, rfl⟩
    obtain ⟨_, -, -, rfl⟩ := hv26
    simp only [Act.put, List.setIfInBounds_toArray, List.set_cons_succ, List.set_cons_zero, Nat.reduceAdd]
    refine wM_op _ rfl rfl (opens_call ?fb27 ?gb27 (fun w' hD => ?hb27) (fun w' hD => ?cb27)) (fun v27 hv27 => ?nb27)
    case hb27 => go_simp; constructor <;> rfl
    case cb27 =>
      refine (KB.out w').mono ?_
      rintro e w2 ⟨rfl, hb⟩
      exact ⟨_, rfl, hb, rfl⟩
    obtain ⟨_, -, -, rfl⟩ := hv27
    simp only [Act.put, List.setIfInBounds_toArray, List.set_cons_succ, List.set_cons_zero, Nat.reduceAdd]
    refine wM_val ?ub28 rfl rfl Ext.refl (fun w' hD => ?hb28) (fun phb28 => ?nb28)
    case hb28 =>
      obtain ⟨⟨c0, c1, c2⟩, ⟨g0, g1, g2, g3, g4⟩, k0, k1, k2, k3, k4⟩ := FX.out w' hD.1
      go_simp; rfl
    simp only [Act.put, List.setIfInBounds_toArray, List.set_cons_succ, List.set_cons_zero, Nat.reduceAdd]
    refine wM_val ?ub29 rfl rfl Ext.refl (fun w' hD => ?hb29) (fun phb29 => ?nb29)
    case hb29 =>
      obtain ⟨⟨c0, c1, c2⟩, ⟨g0, g1, g2, g3, g4⟩, k0, k1, k2, k3, k4⟩ := FX.out w' hD.1
      go_simp; rfl
    simp only [Act.put, List.setIfInBounds_toArray, List.set_cons_succ, List.set_cons_zero, Nat.reduceAdd]
    refine wM_nil ?_
    intro w9 hw9 hF9
    clear hF9
    go_wp2
    go_ret
    exact ⟨ret_of (bool_of (by rw [HV.out]; rfl)), hx0.trans hw9⟩
end Go.Proofs.Ytjnobdcbbboeeaa
