/- The walk of Ask. Printed by my gen_ask2.py. -/
import Derived.Test.YtgnjhaomlbkgcaaWAsk
namespace Go.Proofs.Ytgnjhaomlbkgcaa
open Go Go.RowKit Go.Shelf
set_option linter.unusedVariables false
set_option linter.unusedSimpArgs false

theorem Ext.frozen {w w' : World} (h : Ext w w') {p : Addr} (hlt : p.block < w.heap.size) : w'.frozen? p = w.frozen? p := by
  have := Below.block h p.block hlt
  unfold World.frozen?
  rw [this]


/-! Ask -/
set_option maxRecDepth 100000 in
set_option maxHeartbeats 1000000 in
theorem ask_any (v : Value) (c : Cs) (a b : Int) (w : World) (hc : CsR w v c) (hs : c.sized) :
    Calls Try.prog 29 #[v, .int .i64 a, .int .i64 b] w fun e w' => e = .returned (.tuple #[.agg #[.int .i64 (askOf c a b).1.1, .int .i64 (askOf c a b).1.2], .int .i64 (askOf c a b).2]) ∧ Ext w w' := by
  have hc' := hc
  obtain ⟨A1, c1, A2, c2, rfl, hB, hC⟩ := hc
  generalize hF : askOf c a b = F
  unfold askOf at hF
  have HF := hid hF
  clear hF
  go_enter Try.func29, Try.ntmps29
  go_wp2_with fail
  refine (asked_any _ c _ 2 [a, b] _ (hc'.ext ?hx) hs (ints_two _ _ a b (by simp [go_sem]) (by simp [go_sem])) (by simp)).mono ?_
  case hx => exact (Ext.alloc (Ext.alloc (Ext.alloc (Ext.refl w) _) _) _)
  rintro e w1 ⟨r, rfl, hb1, hr1, hr2⟩
  have kr0 := hb1.cell (p := ⟨w.heap.size + 1, 0, none⟩) (u := .int .i64 0) (by simp [go_sem])
  have kr1 := hb1.cell (p := ⟨w.heap.size + 1, 1, none⟩) (u := .int .i64 0) (by simp [go_sem])
  have fr0 := (Ext.frozen hb1 (p := ⟨w.heap.size + 1, 0, none⟩) (by simp)).trans (show _ = false by simp [go_sem])
  have fr1 := (Ext.frozen hb1 (p := ⟨w.heap.size + 1, 1, none⟩) (by simp)).trans (show _ = false by simp [go_sem])
  have hx1 : Ext w w1 := Ext.trans (Ext.alloc (Ext.alloc (Ext.alloc (Ext.refl w) _) _) _) hb1
  by_cases h0 : askedC c [a, b] = 0
  · have hr := hr1 h0
    obtain ⟨hc0, _, hlt⟩ := askedC_parts h0
    obtain ⟨ev1, ev8⟩ := checkC_ev hc0
    have ha := hlt a (by simp)
    have hb := hlt b (by simp)
    rw [if_pos h0] at HF
    rw [h0]
    clear hr1 hr2 h0 hlt
    obtain ⟨an, rfl⟩ : ∃ n : Nat, a = n := ⟨a.toNat, by omega⟩
    obtain ⟨bn, rfl⟩ : ∃ n : Nat, b = n := ⟨b.toNat, by omega⟩
    simp only [Int.toNat_natCast] at HF
    have han : an < 8 := by omega
    have hbn : bn < 8 := by omega
    have han' : (an : Int) < 8 := by omega
    have hbn' : (bn : Int) < 8 := by omega
    have hlo1 := (gapsM_low (tf := allT) hc0) an bn han hbn
    have hlo2 := (gapsM_low (tf := allT) hc0) bn an hbn han
    unfold far at hlo1 hlo2
    obtain ⟨D, B1, k1, B2, k2, rfl, hd, _, _⟩ := hr
    have hcell := hd.at_ han hbn
    have hcell2 := hd.at_ hbn han
    generalize hG : gapsM allT c an bn = G at *
    generalize hH : gapsM allT c bn an = H at *
    clear hG hH
    by_cases hfar : G = 1099511627776
    · rw [if_pos (Or.inl (by simpa [far] using hfar))] at HF
      go_wp2
      refine bodyPost_ret (v := .tuple #[.agg #[.int .i64 0, .int .i64 0], .int .i64 6]) ?_ rfl ⟨by rw [← HF.out], (hx1.setCell (by simp) _).setCell (by simp) _⟩
      rw [results_cell_tmp rfl]
      go_simp
    by_cases hfar2 : H = 1099511627776
    · rw [if_pos (Or.inr (by simpa [far] using hfar2))] at HF
      go_wp2
      refine bodyPost_ret (v := .tuple #[.agg #[.int .i64 0, .int .i64 0], .int .i64 6]) ?_ rfl ⟨by rw [← HF.out], (hx1.setCell (by simp) _).setCell (by simp) _⟩
      rw [results_cell_tmp rfl]
      go_simp
    rw [if_neg (by simp [far, hfar, hfar2])] at HF
    have hbf1 : (G == 1099511627776) = false := by simpa using hfar
    have hbf2 : (H == 1099511627776) = false := by simpa using hfar2
    go_wp2
    have FX0 : ∀ w', Ext w1 w' → w'.cell? ⟨D, 4 + an * 8 + bn, none⟩ = some (.int .i64 G) ∧ w'.cell? ⟨D, 4 + bn * 8 + an, none⟩ = some (.int .i64 H) := fun w' h => ⟨h.cell hcell, h.cell hcell2⟩
    have FX := hid FX0
    clear FX0
    refine wp_region_opens_tail Ext (fun w' => Ext w1 w') (fun _ => none) 18 (by kernel_rfl) (by kernel_rfl) (ext_up w1) (fun i R h => by cases h) (Ext.drew (Ext.refl w1)) ?_
    refine wpM_val ?u0 rfl rfl Ext.refl (fun w' hD => ?h0) ?n0
    case h0 =>
      obtain ⟨d1, d2⟩ := FX.out w' hD.1
      go_simp; rfl
    simp only [Act.put, List.setIfInBounds_toArray, List.set_cons_succ, List.set_cons_zero, Nat.reduceAdd]
    refine wpM_val ?u1 rfl rfl Ext.refl (fun w' hD => ?h1) ?n1
    case h1 =>
      obtain ⟨d1, d2⟩ := FX.out w' hD.1
      go_simp; rfl
    simp only [Act.put, List.setIfInBounds_toArray, List.set_cons_succ, List.set_cons_zero, Nat.reduceAdd]
    refine wpM_val ?u2 rfl rfl Ext.refl (fun w' hD => ?h2) ?n2
    case h2 =>
      obtain ⟨d1, d2⟩ := FX.out w' hD.1
      go_simp; rfl
    simp only [Act.put, List.setIfInBounds_toArray, List.set_cons_succ, List.set_cons_zero, Nat.reduceAdd]
    refine wpM_val ?u3 rfl rfl Ext.refl (fun w' hD => ?h3) ?n3
    case h3 =>
      obtain ⟨d1, d2⟩ := FX.out w' hD.1
      go_simp; rfl
    simp only [Act.put, List.setIfInBounds_toArray, List.set_cons_succ, List.set_cons_zero, Nat.reduceAdd]
    refine wpM_val ?u4 rfl rfl Ext.refl (fun w' hD => ?h4) ?n4
    case h4 =>
      obtain ⟨d1, d2⟩ := FX.out w' hD.1
      go_simp; rfl
    simp only [Act.put, List.setIfInBounds_toArray, List.set_cons_succ, List.set_cons_zero, Nat.reduceAdd]
    refine wpM_val ?u5 rfl rfl Ext.refl (fun w' hD => ?h5) ?n5
    case h5 =>
      obtain ⟨d1, d2⟩ := FX.out w' hD.1
      go_simp; rfl
    simp only [Act.put, List.setIfInBounds_toArray, List.set_cons_succ, List.set_cons_zero, Nat.reduceAdd]
    refine wpM_val ?u6 rfl rfl Ext.refl (fun w' hD => ?h6) ?n6
    case h6 =>
      obtain ⟨d1, d2⟩ := FX.out w' hD.1
      go_simp; rfl
    simp only [Act.put, List.setIfInBounds_toArray, List.set_cons_succ, List.set_cons_zero, Nat.reduceAdd]
    refine wpM_val ?u7 rfl rfl Ext.refl (fun w' hD => ?h7) ?n7
    case h7 =>
      obtain ⟨d1, d2⟩ := FX.out w' hD.1
      go_simp; rfl
    simp only [Act.put, List.setIfInBounds_toArray, List.set_cons_succ, List.set_cons_zero, Nat.reduceAdd]
    refine wpM_val ?u8 rfl rfl Ext.refl (fun w' hD => ?h8) ?n8
    case h8 =>
      obtain ⟨d1, d2⟩ := FX.out w' hD.1
      go_simp; rfl
    simp only [Act.put, List.setIfInBounds_toArray, List.set_cons_succ, List.set_cons_zero, Nat.reduceAdd]
    refine wpM_val ?u9 rfl rfl Ext.refl (fun w' hD => ?h9) ?n9
    case h9 =>
      obtain ⟨d1, d2⟩ := FX.out w' hD.1
      go_simp; rfl
    simp only [Act.put, List.setIfInBounds_toArray, List.set_cons_succ, List.set_cons_zero, Nat.reduceAdd]
    refine wpM_val ?u10 rfl rfl Ext.refl (fun w' hD => ?h10) ?n10
    case h10 =>
      obtain ⟨d1, d2⟩ := FX.out w' hD.1
      go_simp; rfl
    simp only [Act.put, List.setIfInBounds_toArray, List.set_cons_succ, List.set_cons_zero, Nat.reduceAdd]
    refine wpM_val ?u11 rfl rfl Ext.refl (fun w' hD => ?h11) ?n11
    case h11 =>
      obtain ⟨d1, d2⟩ := FX.out w' hD.1
      go_simp; rfl
    simp only [Act.put, List.setIfInBounds_toArray, List.set_cons_succ, List.set_cons_zero, Nat.reduceAdd]
    refine wpM_val ?u12 rfl rfl Ext.refl (fun w' hD => ?h12) ?n12
    case h12 =>
      obtain ⟨d1, d2⟩ := FX.out w' hD.1
      go_simp; rfl
    simp only [Act.put, List.setIfInBounds_toArray, List.set_cons_succ, List.set_cons_zero, Nat.reduceAdd]
    refine wpM_val ?u13 rfl rfl Ext.refl (fun w' hD => ?h13) ?n13
    case h13 =>
      obtain ⟨d1, d2⟩ := FX.out w' hD.1
      go_simp; rfl
    simp only [Act.put, List.setIfInBounds_toArray, List.set_cons_succ, List.set_cons_zero, Nat.reduceAdd]
    refine wpM_val ?u14 rfl rfl Ext.refl (fun w' hD => ?h14) ?n14
    case h14 =>
      obtain ⟨d1, d2⟩ := FX.out w' hD.1
      go_simp; rfl
    simp only [Act.put, List.setIfInBounds_toArray, List.set_cons_succ, List.set_cons_zero, Nat.reduceAdd]
    refine wpM_val ?u15 rfl rfl Ext.refl (fun w' hD => ?h15) ?n15
    case h15 =>
      obtain ⟨d1, d2⟩ := FX.out w' hD.1
      go_simp; rfl
    simp only [Act.put, List.setIfInBounds_toArray, List.set_cons_succ, List.set_cons_zero, Nat.reduceAdd]
    refine wpM_val ?u16 rfl rfl Ext.refl (fun w' hD => ?h16) ?n16
    case h16 =>
      obtain ⟨d1, d2⟩ := FX.out w' hD.1
      go_simp; rfl
    simp only [Act.put, List.setIfInBounds_toArray, List.set_cons_succ, List.set_cons_zero, Nat.reduceAdd]
    refine wpM_val ?u17 rfl rfl Ext.refl (fun w' hD => ?h17) ?n17
    case h17 =>
      obtain ⟨d1, d2⟩ := FX.out w' hD.1
      go_simp; rfl
    simp only [Act.put, List.setIfInBounds_toArray, List.set_cons_succ, List.set_cons_zero, Nat.reduceAdd]
    refine wpM_nil ?_
    intro w9 hw9 hF9
    have lr0 := hw9.cell kr0
    have lr1 := hw9.cell kr1
    have lf0 := (Ext.frozen hw9 (World.block_lt_of_cell? w1 _ kr0)).trans fr0
    have lf1 := (Ext.frozen hw9 (World.block_lt_of_cell? w1 _ kr1)).trans fr1
    have hx9 := hx1.trans hw9
    have hng : IntKind.i64.wrap (-H) = -H := IntWalk.i64_in _ ⟨by omega, by omega⟩
    clear kr0 kr1 fr0 fr1
    try simp only [List.drop_succ_cons, List.drop_zero]
    go_wp2
    refine bodyPost_ret (v := .tuple #[.agg #[.int .i64 (-H), .int .i64 G], .int .i64 0]) ?_ rfl ⟨by rw [← HF.out], (hx9.setCell (by simp) _).setCell (by simp) _⟩
    rw [results_cell_tmp rfl]
    go_simp
  · rw [if_neg h0] at HF
    have H0 := hid h0
    have hr := hr2 h0
    subst hr
    generalize hE : askedC c [a, b] = E at *
    clear hE hr1 hr2
    go_wp2
    refine bodyPost_ret (v := .tuple #[.agg #[.int .i64 0, .int .i64 0], .int .i64 E]) ?_ rfl ⟨by rw [← HF.out], (hx1.setCell (by simp) _).setCell (by simp) _⟩
    rw [results_cell_tmp rfl]
    go_simp
end Go.Proofs.Ytgnjhaomlbkgcaa
