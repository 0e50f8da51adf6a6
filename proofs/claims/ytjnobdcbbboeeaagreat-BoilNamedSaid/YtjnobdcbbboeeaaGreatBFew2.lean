/- Fewest's answer is a row of its own. As XBFew. -/
import Derived.Test.YtjnobdcbbboeeaaGreatH9
import Derived.Test.YtjnobdcbbboeeaaGreatH5
namespace Go.Proofs.YtjnobdcbbboeeaaGreat
open Go Go.RowKit Go.Shelf
set_option linter.unusedVariables false
set_option linter.unusedSimpArgs false

set_option maxRecDepth 100000 in
set_option maxHeartbeats 4000000 in
theorem fewest2_any (v : Value) (h : Hs) (w : World) (hr : HsR w v h) (hs : h.sized) :
    Calls Tryz.prog 6 #[v] w fun e w' => ∃ A c, e = .returned (.tuple #[.slice A (fewV h).length c, .int .i64 (fewE h)]) ∧ Ext w w' ∧ w'.ownsRow w.heap.size 3 1 (.slice A (fewV h).length c) (fewV h).length ((fewV h).map (.int .i64)) := by
  obtain ⟨A, c, rfl, hrw, hcap⟩ := hr
  obtain ⟨T, hT⟩ : ∃ T, checkH h = T := ⟨_, rfl⟩
  obtain ⟨w1, hw1⟩ : ∃ w1, w.alloc (.cells #[.int .i64 h.mo, .int .i64 h.pk, .slice A h.ws.length c] 25) = w1 := ⟨_, rfl⟩
  have hx1 : Ext w w1 := by rw [← hw1]; exact Ext.alloc (Ext.refl w) _
  have b1 : w1.heap[w.heap.size]? = some (.cells #[.int .i64 h.mo, .int .i64 h.pk, .slice A h.ws.length c] 25 (0, 0)) := by rw [← hw1]; exact heap_alloc_new w _
  have c0 : w1.cell? ⟨w.heap.size, 0, none⟩ = some (.int .i64 h.mo) := by rw [cell_of_row w1 w.heap.size 0 _ _ _ b1]; rfl
  have c1 : w1.cell? ⟨w.heap.size, 1, none⟩ = some (.int .i64 h.pk) := by rw [cell_of_row w1 w.heap.size 1 _ _ _ b1]; rfl
  have c2 : w1.cell? ⟨w.heap.size, 2, none⟩ = some (.slice A h.ws.length c) := by rw [cell_of_row w1 w.heap.size 2 _ _ _ b1]; rfl
  have KO := hid (opened_any (hval h A c) h w1 ⟨A, c, rfl, Rows.ext hrw hx1, hcap⟩ hs)
  unfold hval at KO
  have HT := hid hT
  have HF : Hid (fewE h = T ∧ (T ≠ 0 → fewV h = []) ∧ (T = 0 → fewV h = fewH h)) := by
    unfold Hid fewE fewV
    rw [hT]
    exact ⟨rfl, fun e => by rw [if_pos e], fun e => by rw [if_neg (by simp [e])]⟩
  have HW1 := hid hw1
  clear hw1 hT hrw b1 hs
  unfold hval
  rw [HF.out.1]
  obtain ⟨L, hL⟩ : ∃ L, fewV h = L := ⟨_, rfl⟩
  rw [hL] at HF ⊢
  clear hL
  go_enter Tryz.func6, Tryz.ntmps6
  go_upto_region 1 with fail
  rw [HW1.out]
  clear HW1
  go_wp2_with fail
  refine KO.out.mono ?_
  rintro e w2 ⟨r, rfl, h2, hok, hbad⟩
  rw [HT.out]
  rw [HT.out] at hok hbad
  have hx2 := hx1.trans h2
  clear KO c0 c1 c2
  by_cases h0 : T = 0
  case neg =>
    have h0b : (T != 0) = true := by simpa using h0
    have HL := HF.out.2.1 h0
    subst HL
    go_wp2
    go_ret2
    exact ⟨none, 0, rfl, hx2, own_nil _ _ _ _⟩
  subst h0
  have HL := HF.out.2.2 rfl
  subst HL
  have k := checkH_ok HT.out
  obtain ⟨D, A2, cc, rfl, hd, -, -⟩ := hok rfl
  clear hok hbad HF
  obtain ⟨W3, hW3⟩ : ∃ W3, w2.alloc (.cells #[.slice none 0 0] 31) = W3 := ⟨_, rfl⟩
  have hx3 : Ext w2 W3 := by rw [← hW3]; exact Ext.alloc (Ext.refl _) _
  have hj3 : W3.heap[w2.heap.size]? = some (.cells #[.slice none 0 0] 31 (0, 0)) := by rw [← hW3]; exact heap_alloc_new _ _
  have hz3 : W3.heap.size = w2.heap.size + 1 := by rw [← hW3]; simp
  have hd3 := hd.ext hx3
  have hDl := hd.lt
  have KS := hid (smallest_any h D A2 cc 29 #[.pointer (some ⟨w2.heap.size, 0, none⟩)] false (fun k => k = w2.heap.size) (FewJ (W3.heap.size + 3) w2.heap.size) W3 k.len (small_room k) hd3 (few_watch _ _ (by omega)) (fun hp h hb => few_keep _ _ (by omega) hp h hb) (fun k hk => by subst hk; omega) hj3)
  rw [told_small k] at KS
  go_upto_region 5 with fail
  try rw [hW3]
  clear hW3
  go_wp2_with fail
  refine KS.out.mono ?_
  rintro e W4 ⟨rfl, ⟨A4, c4, hF4, ho4⟩, hb4⟩
  have cF : W4.cell? ⟨w2.heap.size, 0, none⟩ = some (.slice A4 (fewH h).length c4) := by rw [cell_of_row W4 _ 0 _ _ _ hF4]; rfl
  clear KS
  go_wp2
  go_ret2
  exact ⟨A4, c4, rfl, hx2.trans (((Ext.belS hx3).trans hb4 |>.mono (S' := fun k => w2.heap.size ≤ k) (fun k _ hk => by subst hk; exact Nat.le_refl _)).ext (fun k hk hS => by omega)), own_base ho4 (by have := hx2.size; omega)⟩
end Go.Proofs.YtjnobdcbbboeeaaGreat
