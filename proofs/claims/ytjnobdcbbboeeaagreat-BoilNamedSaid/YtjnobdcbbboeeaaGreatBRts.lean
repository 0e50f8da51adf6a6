/- The walk of boil's ratios (the error of a house, or of ratios). Printed by my gen_brts.py. -/
import Derived.Test.YtjnobdcbbboeeaaGreatH6
import Derived.Test.YtjnobdcbbboeeaaGreatH3
namespace Go.Proofs.YtjnobdcbbboeeaaGreat
open Go Go.RowKit Go.Shelf
set_option linter.unusedVariables false
set_option linter.unusedSimpArgs false

def rtOK (r : Rt) : Bool := inB r.1 1 1000000 && inB r.2 1 1000000
def ratE (h : Hs) (l : List Rt) : Int := if checkH h ≠ 0 then checkH h else if (l.length : Int) ≠ h.mo then 2 else if l.all rtOK = false then 3 else 0
theorem ratok_any (r : Rt) (w : World) : Calls Tryz.prog 71 #[rval r] w fun e w' => e = .returned (.bool (rtOK r)) ∧ Ext w w' := by
  have HV : Hid (rtOK r = (inB r.1 1 1000000 && inB r.2 1 1000000)) := rfl
  rw [HV.out]
  unfold rval
  obtain ⟨w1, hw1⟩ : ∃ w1, w.alloc (.cells #[.int .i64 r.1, .int .i64 r.2] 63) = w1 := ⟨_, rfl⟩
  have hx1 : Ext w w1 := by rw [← hw1]; exact Ext.alloc (Ext.refl w) _
  have b1 : w1.heap[w.heap.size]? = some (.cells #[.int .i64 r.1, .int .i64 r.2] 63 (0, 0)) := by rw [← hw1]; exact heap_alloc_new w _
  have c0 : w1.cell? ⟨w.heap.size, 0, none⟩ = some (.int .i64 r.1) := by rw [cell_of_row w1 w.heap.size 0 _ _ _ b1]; rfl
  have c1 : w1.cell? ⟨w.heap.size, 1, none⟩ = some (.int .i64 r.2) := by rw [cell_of_row w1 w.heap.size 1 _ _ _ b1]; rfl
  go_enter Tryz.func71, Tryz.ntmps71
  go_upto_region 1 with fail
  try rw [hw1]
  clear hw1 b1
  go_wp2_with fail
  refine (in_any _ _ _ _).mono ?_
  rintro e w2 ⟨rfl, rfl⟩
  cases h1 : inB r.1 1 1000000 with
  | false =>
    go_wp2
    go_ret
    exact ⟨by first | rfl | simp [h1], hx1⟩
  | true =>
    go_wp2_with fail
    refine (in_any _ _ _ _).mono ?_
    rintro e w2 ⟨rfl, rfl⟩
    go_wp2
    go_ret
    exact ⟨by first | rfl | simp [h1], hx1⟩
theorem ratok_fn (w : World) : FnP Tryz.prog (.func (.func 71) #[] #[]) w RtR anyx rtOK := by
  refine ⟨_, _, _, rfl, enters_of Tryz.func71 (by kernel_rfl) rfl, fun x v2 W _ hW hR => ?_⟩
  obtain rfl : v2 = rval x := hR
  exact ratok_any x W
set_option maxRecDepth 100000 in
set_option maxHeartbeats 4000000 in
theorem ratios_any (v : Value) (h : Hs) (w : World) (hr : HsR w v h) (hs : h.sized) (Ar : Option Addr) (cr : Nat) (l : List Rt) (hA : Prs w Ar l) (hl : l.length ≤ 1000000) :
    Calls Tryz.prog 31 #[v, .slice Ar l.length cr] w fun e w' => e = .returned (.int .i64 (ratE h l)) ∧ Ext w w' := by
  obtain ⟨A, c, rfl, hrw, hcap⟩ := hr
  obtain ⟨T, hT⟩ : ∃ T, checkH h = T := ⟨_, rfl⟩
  obtain ⟨w1, hw1⟩ : ∃ w1, w.alloc (.cells #[.int .i64 h.mo, .int .i64 h.pk, .slice A h.ws.length c] 25) = w1 := ⟨_, rfl⟩
  have hx1 : Ext w w1 := by rw [← hw1]; exact Ext.alloc (Ext.refl w) _
  have b1 : w1.heap[w.heap.size]? = some (.cells #[.int .i64 h.mo, .int .i64 h.pk, .slice A h.ws.length c] 25 (0, 0)) := by rw [← hw1]; exact heap_alloc_new w _
  have FH : Hid (∀ w', Ext w1 w' → w'.cell? ⟨w.heap.size, 0, none⟩ = some (.int .i64 h.mo) ∧ w'.cell? ⟨w.heap.size, 1, none⟩ = some (.int .i64 h.pk) ∧ w'.cell? ⟨w.heap.size, 2, none⟩ = some (.slice A h.ws.length c)) := fun w' hx =>
    ⟨hx.cell (by rw [cell_of_row w1 w.heap.size 0 _ _ _ b1]; rfl), hx.cell (by rw [cell_of_row w1 w.heap.size 1 _ _ _ b1]; rfl), hx.cell (by rw [cell_of_row w1 w.heap.size 2 _ _ _ b1]; rfl)⟩
  have KC := hid (check_any (hval h A c) h w1 ⟨A, c, rfl, Rows.ext hrw hx1, hcap⟩ hs)
  have HA : Hid (∀ w', Ext w1 w' → Prs w' Ar l) := fun w' hx => Rows.ext hA (hx1.trans hx)
  unfold hval at KC
  rw [hT] at KC
  have HE : Hid (ratE h l = if T ≠ 0 then T else if (l.length : Int) ≠ h.mo then 2 else if l.all rtOK = false then 3 else 0) := by unfold Hid ratE; rw [hT]
  obtain ⟨E, hE⟩ : ∃ E, ratE h l = E := ⟨_, rfl⟩
  rw [hE] at HE ⊢
  have HT := hid hT
  have HW1 := hid hw1
  have KEv : Hid (∀ w', Ext w1 w' → Calls Tryz.prog 70 #[.slice Ar l.length cr, .func (.func 71) #[] #[]] w' fun e w2 => e = .returned (.bool (l.all rtOK)) ∧ Ext w' w2) := fun w' hx => every_rat Ar cr l _ anyx rtOK w' (HA.out w' hx) (by omega) (fun _ _ => trivial) (ratok_fn w')
  obtain ⟨N, hN⟩ : ∃ N : Nat, l.length = N := ⟨_, rfl⟩
  rw [hN] at KEv HE ⊢
  clear hw1 hT hrw b1 hs hE hA hN HA hl
  unfold hval
  go_enter Tryz.func31, Tryz.ntmps31
  go_upto_region 1 with fail
  rw [HW1.out]
  clear HW1
  obtain ⟨c0, c1, c2⟩ := FH.out w1 (Ext.refl _)
  go_wp2_with fail
  refine KC.out.mono ?_
  rintro e w2 ⟨rfl, h2⟩
  have hx2 := hx1.trans h2
  clear KC c0 c1 c2
  obtain ⟨c0, c1, c2⟩ := FH.out w2 h2
  by_cases h0 : T = 0
  case neg =>
    have h0b : (T != 0) = true := by simpa using h0
    have HL : E = T := by rw [HE.out, if_pos h0]
    subst HL
    clear HE
    go_wp2
    go_ret
    exact ⟨rfl, hx2⟩
  subst h0
  by_cases hn : (N : Int) = h.mo
  · have hnb : ((N : Int) != h.mo) = false := by simpa using hn
    cases ha : l.all rtOK with
    | false =>
      have HL : E = 3 := by rw [HE.out, if_neg (by simp), if_neg (by simpa using hn), if_pos ha]
      subst HL
      have KE := hid (KEv.out w2 h2)
      rw [ha] at KE
      clear HE ha hn KEv
      go_wp2_with fail
      refine KE.out.mono ?_
      rintro e w3 ⟨rfl, h3⟩
      go_wp2
      go_ret
      exact ⟨rfl, hx2.trans h3⟩
    | true =>
      have HL : E = 0 := by rw [HE.out, if_neg (by simp), if_neg (by simpa using hn), if_neg (by rw [ha]; simp)]
      subst HL
      have KE := hid (KEv.out w2 h2)
      rw [ha] at KE
      clear HE ha hn KEv
      go_wp2_with fail
      refine KE.out.mono ?_
      rintro e w3 ⟨rfl, h3⟩
      go_wp2
      go_ret
      exact ⟨rfl, hx2.trans h3⟩
  · have hnb : ((N : Int) != h.mo) = true := by simpa using hn
    have HL : E = 2 := by rw [HE.out, if_neg (by simp), if_pos (by simpa using hn)]
    subst HL
    clear HE hn KEv
    go_wp2
    go_ret
    exact ⟨rfl, hx2⟩
end Go.Proofs.YtjnobdcbbboeeaaGreat
