/- The walk of Made's own function: one bound. -/
import Derived.Test.YtgnjhaomlbkgcaaBelS
import Derived.Test.YtgnjhaomlbkgcaaWMadeP
import Derived.StillTailTactics
namespace Go.Proofs.Ytgnjhaomlbkgcaa
open Go Go.RowKit Go.Shelf
set_option linter.unusedVariables false
set_option linter.unusedSimpArgs false

theorem mod_off {a r ev : Int} (a0 : 0 ≤ a) (a1 : a ≤ ev - 1) (r1 : 1 ≤ r) (r2 : r ≤ ev - 1) : 0 ≤ (a + r) % ev ∧ (a + r) % ev < ev ∧ (a + r) % ev ≠ a := by
  refine ⟨Int.emod_nonneg _ (by omega), Int.emod_lt_of_pos _ (by omega), ?_⟩
  by_cases h : a + r < ev
  · rw [Int.emod_eq_of_lt (by omega) h]; omega
  · have h1 : (a + r) % ev = a + r - ev := by
      rw [← Int.sub_emod_right, Int.emod_eq_of_lt (by omega) (by omega)]
    omega

set_option maxRecDepth 100000 in
set_option maxHeartbeats 2000000 in
theorem one_any (D Bh Bc Br : Nat) (ev off : Int) (A : Option Addr) (c3 : Nat) (real : List Int) (w : World) (h : HeapR w D) (hBh : w.cell? ⟨Bh, 0, none⟩ = some (.pointer (some ⟨D, 0, none⟩))) (hBc : w.cell? ⟨Bc, 0, none⟩ = some (.int .i64 ev)) (hBr : w.cell? ⟨Br, 0, none⟩ = some (.slice A real.length c3))
    (hA : Ints w A real) (hDh : Bh ≠ D) (hDc : Bc ≠ D) (hDr : Br ≠ D) (hDA : ∀ a, A = some a → a.block ≠ D) (e2 : 2 ≤ ev) (e8 : ev ≤ 8) (hlen : (real.length : Int) = ev) (hreal : ∀ x ∈ real, -40 ≤ x ∧ x ≤ 90) (o1 : -1000 ≤ off) (o2 : off ≤ 1000) :
    Calls Try.prog 78 #[.int .i64 off, .pointer (some ⟨Bh, 0, none⟩), .pointer (some ⟨Bc, 0, none⟩), .pointer (some ⟨Br, 0, none⟩)] w fun e w' => ∃ b : Bd, e = .returned b.val ∧ bdMade ev real off off b ∧ Bel D w w' ∧ HeapR w' D := by
  have qBh := fun o => (Ext.alloc (Ext.refl w) o).cell hBh
  have qBc := fun o => (Ext.alloc (Ext.refl w) o).cell hBc
  go_enter Try.func78, Try.ntmps78
  go_wp2_with fail
  have x0 := Ext.alloc (Ext.refl w) (.cells #[.int .i64 0, .int .i64 0, .int .i64 0] 35)
  refine (upto_any D (ev - 1) _ (h.ext x0) (by omega) (by omega)).mono ?_
  rintro e w1 ⟨a, rfl, a0, a1, hb1, hh1⟩
  have y1 := (x0.bel (D := D)).trans hb1
  have hDlt := h.lt
  have H1 := hid (hb1.heap (heap_alloc_new w (.cells #[.int .i64 0, .int .i64 0, .int .i64 0] 35)) (by omega))
  have hBh1 := y1.cell hBh hDh
  have hBc1 := y1.cell hBc hDc
  have ha : a ≤ ev - 1 := by omega
  go_wp2
  have FX0 : ∀ w', (Bel D w1 w' ∧ HeapR w' D) → w'.cell? ⟨Bh, 0, none⟩ = some (.pointer (some ⟨D, 0, none⟩)) ∧ w'.cell? ⟨Bc, 0, none⟩ = some (.int .i64 ev) :=
    fun w' hw => ⟨hw.1.cell hBh1 hDh, hw.1.cell hBc1 hDc⟩
  have FX := hid FX0
  clear FX0
  have hwr : IntKind.i64.wrap (ev - 1) = ev - 1 := IntWalk.i64_in _ ⟨by omega, by omega⟩
  refine wp_region_opens (Deal D) (fun w' => Bel D w1 w' ∧ HeapR w' D) (fun | 5 => some (fun v _ => ∃ r : Int, v = .int .i64 r ∧ 1 ≤ r ∧ r ≤ ev - 1) | _ => none) (by kernel_rfl) (by kernel_rfl) (fun _ _ h k => ⟨h.1.trans k.1, k.2 h.2⟩) ?hT ⟨Ext.bel (Ext.drew (Ext.refl _)), hh1.ext (Ext.drew (Ext.refl _))⟩ ?_
  case hT =>
    intro i R hR
    match i, hR with
    | 5, hR => cases hR; exact fun _ _ _ h _ => h
  refine wpM_val ?u0 rfl rfl (Deal.refl D) (fun w' hD => ?h0) ?n0
  case h0 =>
    obtain ⟨d0, d1⟩ := FX.out w' hD.1
    go_simp; rfl
  simp only [Act.put, List.setIfInBounds_toArray, List.set_cons_succ, List.set_cons_zero, Nat.reduceAdd]
  refine wpM_val ?u1 rfl rfl (Deal.refl D) (fun w' hD => ?h1) ?n1
  case h1 =>
    obtain ⟨d0, d1⟩ := FX.out w' hD.1
    go_simp; rfl
  simp only [Act.put, List.setIfInBounds_toArray, List.set_cons_succ, List.set_cons_zero, Nat.reduceAdd]
  refine wpM_val ?u2 rfl rfl (Deal.refl D) (fun w' hD => ?h2) ?n2
  case h2 =>
    obtain ⟨d0, d1⟩ := FX.out w' hD.1
    go_simp; rfl
  simp only [Act.put, List.setIfInBounds_toArray, List.set_cons_succ, List.set_cons_zero, Nat.reduceAdd]
  refine wpM_val ?u3 rfl rfl (Deal.refl D) (fun w' hD => ?h3) ?n3
  case h3 =>
    obtain ⟨d0, d1⟩ := FX.out w' hD.1
    go_simp; rfl
  simp only [Act.put, List.setIfInBounds_toArray, List.set_cons_succ, List.set_cons_zero, Nat.reduceAdd]
  refine wpM_val ?u4 rfl rfl (Deal.refl D) (fun w' hD => ?h4) ?n4
  case h4 =>
    obtain ⟨d0, d1⟩ := FX.out w' hD.1
    go_simp; rfl
  simp only [Act.put, List.setIfInBounds_toArray, List.set_cons_succ, List.set_cons_zero, Nat.reduceAdd]
  refine wpM_op _ rfl rfl (opens_call ?f5 ?g5 (fun w' hD => ?h5) (fun w' hD => ?c5)) (fun v5 hv5 => ?n5)
  case h5 => go_simp; constructor <;> rfl
  case c5 =>
    refine (from_any D 1 (ev - 1) w' hD.1.2 (by omega) (by omega) (by omega) (by omega)).mono ?_
    rintro e w2 ⟨r, rfl, r1, r2, hb, hh⟩
    exact ⟨_, rfl, Deal.mk' hb hh, r, rfl, r1, by omega⟩
  simp only [Act.put, List.setIfInBounds_toArray, List.set_cons_succ, List.set_cons_zero, Nat.reduceAdd]
  obtain ⟨_, -, -, r, rfl, r1, r2⟩ := hv5
  have hsum : IntKind.i64.wrap (a + r) = a + r := IntWalk.i64_in _ ⟨by omega, by omega⟩
  have hrem : (a + r).tmod ev = (a + r) % ev := Int.tmod_eq_emod_of_nonneg (by omega)
  have hev0 : ¬ ev = 0 := by omega
  refine wpM_val ?u6 rfl rfl (Deal.refl D) (fun w' hD => ?h6) ?n6
  case h6 =>
    obtain ⟨d0, d1⟩ := FX.out w' hD.1
    go_simp; rfl
  simp only [Act.put, List.setIfInBounds_toArray, List.set_cons_succ, List.set_cons_zero, Nat.reduceAdd]
  refine wpM_val ?u7 rfl rfl (Deal.refl D) (fun w' hD => ?h7) ?n7
  case h7 =>
    obtain ⟨d0, d1⟩ := FX.out w' hD.1
    go_simp; rfl
  simp only [Act.put, List.setIfInBounds_toArray, List.set_cons_succ, List.set_cons_zero, Nat.reduceAdd]
  refine wpM_val ?u8 rfl rfl (Deal.refl D) (fun w' hD => ?h8) ?n8
  case h8 =>
    obtain ⟨d0, d1⟩ := FX.out w' hD.1
    go_simp; rfl
  simp only [Act.put, List.setIfInBounds_toArray, List.set_cons_succ, List.set_cons_zero, Nat.reduceAdd]
  refine wpM_val ?u9 rfl rfl (Deal.refl D) (fun w' hD => ?h9) ?n9
  case h9 =>
    obtain ⟨d0, d1⟩ := FX.out w' hD.1
    go_simp; rfl
  simp only [Act.put, List.setIfInBounds_toArray, List.set_cons_succ, List.set_cons_zero, Nat.reduceAdd]
  refine wpM_val ?u10 rfl rfl (Deal.refl D) (fun w' hD => ?h10) ?n10
  case h10 =>
    obtain ⟨d0, d1⟩ := FX.out w' hD.1
    go_simp; rfl
  simp only [Act.put, List.setIfInBounds_toArray, List.set_cons_succ, List.set_cons_zero, Nat.reduceAdd]
  refine wpM_nil ?_
  intro w9 hw9 hF9
  have hm := mod_off a0 ha r1 r2
  generalize hB : (a + r) % ev = B at *
  have HB := hid hB
  clear hB hsum hrem FX hwr hF9
  obtain ⟨m0, m1, m2⟩ := hm
  obtain ⟨wb1, wh⟩ := hw9
  have wb := y1.trans wb1
  have H9 := hid (wb1.heap H1.out (by omega))
  obtain ⟨an, rfl⟩ : ∃ k : Nat, a = k := ⟨a.toNat, by omega⟩
  obtain ⟨bn, rfl⟩ : ∃ k : Nat, B = k := ⟨B.toNat, by omega⟩
  have hal : an < real.length := by omega
  have hbl : bn < real.length := by omega
  have hal' : (an : Int) < (real.length : Int) := by omega
  have hbl' : (bn : Int) < (real.length : Int) := by omega
  obtain ⟨x, hx⟩ := get_of_lt real an hal
  obtain ⟨y, hy⟩ := get_of_lt real bn hbl
  have bx := hreal x (mem_of_get hx)
  have by_ := hreal y (mem_of_get hy)
  have gx : real.getD an 0 = x := by rw [List.getD_eq_getElem?_getD, hx]; rfl
  have gy : real.getD bn 0 = y := by rw [List.getD_eq_getElem?_getD, hy]; rfl
  have hA9 : Ints w9 A real := wb.rd hA hDA
  obtain ⟨b1, o3, rfl, cx⟩ := hA9.at_ hx
  obtain ⟨b2, o4, e4, cy⟩ := hA9.at_ hy
  cases e4
  have cr := wb.cell hBr hDr
  have z0 : w9.cell? ⟨w.heap.size, 0, none⟩ = some (.int .i64 0) := by rw [cell_of_row w9 _ 0 _ _ _ H9.out]; rfl
  have z1 : w9.cell? ⟨w.heap.size, 1, none⟩ = some (.int .i64 0) := by rw [cell_of_row w9 _ 1 _ _ _ H9.out]; rfl
  have z2 : w9.cell? ⟨w.heap.size, 2, none⟩ = some (.int .i64 0) := by rw [cell_of_row w9 _ 2 _ _ _ H9.out]; rfl
  have zf : ∀ i, w9.frozen? ⟨w.heap.size, i, none⟩ = false := fun i => by simp [World.frozen?, H9.out]
  have HX := hid hx
  have HY := hid hy
  have GX := hid gx
  have GY := hid gy
  have HL := hid hlen
  clear hlen hx hy gx gy hA hA9 hDA hBr hBh hBc qBh qBc hBh1 hBc1
  go_wp2
  go_still_tail 14, (by kernel_rfl)
  change wpList _ _ _ _ _ w9.drew
  go_wp2
  have hq : bdMade ev real off off ⟨(an : Int), (bn : Int), y - x + off⟩ := by
    refine ⟨⟨by omega, by show (an : Int) < ev; omega⟩, ⟨by omega, by show (bn : Int) < ev; omega⟩, by show (an : Int) ≠ bn; omega, ?_, ?_⟩
    · show real.getD ((bn : Int)).toNat 0 - real.getD ((an : Int)).toNat 0 + off ≤ y - x + off
      rw [Int.toNat_natCast, Int.toNat_natCast, GX.out, GY.out]; exact Int.le_refl _
    · show y - x + off ≤ real.getD ((bn : Int)).toNat 0 - real.getD ((an : Int)).toNat 0 + off
      rw [Int.toNat_natCast, Int.toNat_natCast, GX.out, GY.out]; exact Int.le_refl _
  refine bodyPost_ret (v := .agg #[.int .i64 (an : Int), .int .i64 (bn : Int), .int .i64 (y - x + off)]) ?res rfl ⟨⟨(an : Int), (bn : Int), y - x + off⟩, rfl, hq, ?bl, ?hp⟩
  case res => simp [results, Try.results78, go_sem, z0, z1, z2]
  case bl => exact (((wb.setNew _ _ (Nat.le_refl _)).setNew _ _ (Nat.le_refl _)).setNew _ _ (Nat.le_refl _)).drew
  case hp => exact HeapR.ext (((wh.bel (Bel.setCell (Bel.setCell (Bel.setCell (Bel.refl w.heap.size w9) 0 _) 1 _) 2 _) hDlt))) (Ext.drew (Ext.refl _))
end Go.Proofs.Ytgnjhaomlbkgcaa
