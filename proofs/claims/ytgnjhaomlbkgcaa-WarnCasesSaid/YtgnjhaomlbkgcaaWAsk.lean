/- Walks of asked, Gap, Before, Ask. Printed by my gen_ask.py. -/
import Derived.Test.YtgnjhaomlbkgcaaWOpen
namespace Go.Proofs.Ytgnjhaomlbkgcaa
open Go Go.RowKit Go.Shelf
set_option linter.unusedVariables false
set_option linter.unusedSimpArgs false

def gapOf (c : Cs) (a b : Int) : Int × Int := if askedC c [a, b] = 0 then (if gapsM allT c a.toNat b.toNat = far then (0, 6) else (gapsM allT c a.toNat b.toNat, 0)) else (0, askedC c [a, b])
def beforeOf (c : Cs) (a b : Int) : Int × Int := if askedC c [a, b] = 0 then (verdictM (gapsM allT c) a.toNat b.toNat, 0) else (0, askedC c [a, b])
/-- (least, greatest), error -/
def askOf (c : Cs) (a b : Int) : (Int × Int) × Int := if askedC c [a, b] = 0 then (if gapsM allT c a.toNat b.toNat = far ∨ gapsM allT c b.toNat a.toNat = far then ((0, 0), 6) else ((-gapsM allT c b.toNat a.toNat, gapsM allT c a.toNat b.toNat), 0)) else ((0, 0), askedC c [a, b])

/-! asked -/
set_option maxRecDepth 100000 in
set_option maxHeartbeats 1000000 in
theorem asked_any (v : Value) (c : Cs) (A : Option Addr) (k : Nat) (l : List Int) (w : World) (hc : CsR w v c) (hs : c.sized) (hA : Ints w A l) (hl : l.length ≤ 9223372036854775807) :
    Calls Try.prog 81 #[v, .slice A l.length k] w fun e w' => ∃ r, e = .returned (.tuple #[r, .int .i64 (askedC c l)]) ∧ Ext w w' ∧ (askedC c l = 0 → DeskR w' r c (gapsM allT c)) ∧ (askedC c l ≠ 0 → r = .pointer none) := by
  have hc' := hc
  obtain ⟨A1, c1, A2, c2, rfl, hB, hC⟩ := hc
  have HT : Hid (askedC c l = if checkC c = 0 then (if l.all (fun n => inB n 0 (c.ev - 1)) then toldC c else 1) else checkC c) := rfl
  generalize hT : askedC c l = T at HT ⊢
  clear hT
  go_enter Try.func81, Try.ntmps81
  go_wp2_with fail
  have hx0 : Ext w (w.alloc (.cells #[.int .i64 c.ev, .slice A1 c.bs.length c1, .int .i64 c.wi, .slice A2 c.cl.length c2] 26)) := Ext.alloc (Ext.refl w) _
  refine (check_any _ c _ (hc'.ext hx0) hs).mono ?_
  rintro e w1 ⟨rfl, hb1⟩
  have hx1 := hx0.trans hb1
  have kc0 := hb1.cell (p := ⟨w.heap.size, 0, none⟩) (u := .int .i64 c.ev) (by simp [go_sem])
  have kc1 := hb1.cell (p := ⟨w.heap.size, 1, none⟩) (u := .slice A1 c.bs.length c1) (by simp [go_sem])
  have kc2 := hb1.cell (p := ⟨w.heap.size, 2, none⟩) (u := .int .i64 c.wi) (by simp [go_sem])
  have kc3 := hb1.cell (p := ⟨w.heap.size, 3, none⟩) (u := .slice A2 c.cl.length c2) (by simp [go_sem])
  by_cases h0 : checkC c = 0
  · have H0 := hid h0
    have HT2 : Hid (T = if l.all (fun n => inB n 0 (c.ev - 1)) then toldC c else 1) := by unfold Hid; rw [HT.out, if_pos h0]
    rw [h0]
    clear h0 HT
    obtain ⟨ev1, ev8⟩ := checkC_ev H0.out
    go_wp2_with fail
    refine (every_int A k l _ anyx _ w1 (hA.ext hx1) hl (anyx_all _) (event_fn _ c w1 (hc'.ext hx1) ev1 ev8)).mono ?_
    rintro e w2 ⟨rfl, hb2⟩
    have hx2 := hx1.trans hb2
    have kd0 := hb2.cell kc0
    have kd1 := hb2.cell kc1
    have kd2 := hb2.cell kc2
    have kd3 := hb2.cell kc3
    cases hq : l.all (fun n => inB n 0 (c.ev - 1))
    · have HQ : Hid (T = 1) := by unfold Hid; rw [HT2.out, hq]; rfl
      clear hq
      go_wp2
      go_ret2
      exact ⟨.pointer none, by rw [HQ.out]; rfl, hx2, fun h => (by rw [HQ.out] at h; cases h), fun _ => rfl⟩
    · have HQ : Hid (T = toldC c) := by unfold Hid; rw [HT2.out, hq]; rfl
      clear hq
      go_wp2_with fail
      refine (told_any _ c w2 (hc'.ext hx2) hs).mono ?_
      rintro e w3 ⟨r, rfl, hb3, hr1, hr2⟩
      have hx3 := hx2.trans hb3
      rw [← HQ.out] at hr1 hr2 ⊢
      have HR1 := hid hr1
      have HR2 := hid hr2
      clear hr1 hr2
      go_wp2
      go_ret2
      exact ⟨r, rfl, hx3, HR1.out, HR2.out⟩
  · have HT2 : Hid (T = checkC c) := by unfold Hid; rw [HT.out, if_neg h0]
    have H0 := hid h0
    generalize hE : checkC c = E at *
    clear hE
    go_wp2
    go_ret2
    exact ⟨.pointer none, by rw [HT2.out]; rfl, hx1, fun h => absurd (HT2.out.symm.trans h) H0.out, fun _ => rfl⟩

theorem ints_two (w : World) (B : Nat) (x y : Int) (h0 : w.cell? ⟨B, 0, none⟩ = some (.int .i64 x)) (h1 : w.cell? ⟨B, 1, none⟩ = some (.int .i64 y)) : Ints w (some ⟨B, 0, none⟩) [x, y] :=
  .inr ⟨B, 0, rfl, fun j u hu => by
    match j with
    | 0 => cases hu; exact h0
    | 1 => cases hu; exact h1
    | j + 2 => simp at hu⟩


/-! Gap -/
set_option maxRecDepth 100000 in
set_option maxHeartbeats 1000000 in
theorem gap_any (v : Value) (c : Cs) (a b : Int) (w : World) (hc : CsR w v c) (hs : c.sized) :
    Calls Try.prog 21 #[v, .int .i64 a, .int .i64 b] w fun e w' => e = .returned (.tuple #[.int .i64 (gapOf c a b).1, .int .i64 (gapOf c a b).2]) ∧ Ext w w' := by
  have hc' := hc
  obtain ⟨A1, c1, A2, c2, rfl, hB, hC⟩ := hc
  generalize hF : gapOf c a b = F
  unfold gapOf at hF
  have HF := hid hF
  clear hF
  go_enter Try.func21, Try.ntmps21
  go_wp2_with fail
  refine (asked_any _ c _ 2 [a, b] _ (hc'.ext ?hx) hs (ints_two _ _ a b (by simp [go_sem]) (by simp [go_sem])) (by simp)).mono ?_
  case hx => exact (Ext.alloc (Ext.alloc (Ext.refl w) _) _)
  rintro e w1 ⟨r, rfl, hb1, hr1, hr2⟩
  have hx1 : Ext w w1 := Ext.trans (Ext.alloc (Ext.alloc (Ext.refl w) _) _) hb1
  by_cases h0 : askedC c [a, b] = 0
  · have hr := hr1 h0
    obtain ⟨hc0, _, hlt⟩ := askedC_parts h0
    obtain ⟨ev1, ev8⟩ := checkC_ev hc0
    have ha := hlt a (by simp)
    have hb := hlt b (by simp)
    rw [if_pos h0] at HF
    rw [h0]
    clear hr1 hr2 h0 hlt
    obtain ⟨an, rfl⟩ : ∃ n : Nat, a = n := ⟨a.toNat, by omega⟩
    obtain ⟨bn, rfl⟩ : ∃ n : Nat, b = n := ⟨b.toNat, by omega⟩
    simp only [Int.toNat_natCast] at HF
    have han : an < 8 := by omega
    have hbn : bn < 8 := by omega
    have han' : (an : Int) < 8 := by omega
    have hbn' : (bn : Int) < 8 := by omega
    obtain ⟨D, B1, k1, B2, k2, rfl, hd, _, _⟩ := hr
    have hcell := hd.at_ han hbn
    generalize hG : gapsM allT c an bn = G at *
    clear hG
    by_cases hfar : G = 1099511627776
    · rw [if_pos (by simpa [far] using hfar)] at HF
      go_wp2
      go_ret2
      exact ⟨by rw [← HF.out]; rfl, hx1⟩
    · rw [if_neg (by simpa [far] using hfar)] at HF
      go_wp2
      go_ret2
      exact ⟨by rw [← HF.out]; rfl, hx1⟩
  · rw [if_neg h0] at HF
    have H0 := hid h0
    have hr := hr2 h0
    subst hr
    generalize hE : askedC c [a, b] = E at *
    clear hE hr1 hr2
    go_wp2
    go_ret2
    exact ⟨by rw [← HF.out]; rfl, hx1⟩

/-! Before -/
set_option maxRecDepth 100000 in
set_option maxHeartbeats 1000000 in
theorem before_any (v : Value) (c : Cs) (a b : Int) (w : World) (hc : CsR w v c) (hs : c.sized) :
    Calls Try.prog 20 #[v, .int .i64 a, .int .i64 b] w fun e w' => e = .returned (.tuple #[.int .i64 (beforeOf c a b).1, .int .i64 (beforeOf c a b).2]) ∧ Ext w w' := by
  have hc' := hc
  obtain ⟨A1, c1, A2, c2, rfl, hB, hC⟩ := hc
  generalize hF : beforeOf c a b = F
  unfold beforeOf at hF
  have HF := hid hF
  clear hF
  go_enter Try.func20, Try.ntmps20
  go_wp2_with fail
  refine (asked_any _ c _ 2 [a, b] _ (hc'.ext ?hx) hs (ints_two _ _ a b (by simp [go_sem]) (by simp [go_sem])) (by simp)).mono ?_
  case hx => exact (Ext.alloc (Ext.alloc (Ext.refl w) _) _)
  rintro e w1 ⟨r, rfl, hb1, hr1, hr2⟩
  have hx1 : Ext w w1 := Ext.trans (Ext.alloc (Ext.alloc (Ext.refl w) _) _) hb1
  by_cases h0 : askedC c [a, b] = 0
  · have hr := hr1 h0
    obtain ⟨hc0, _, hlt⟩ := askedC_parts h0
    obtain ⟨ev1, ev8⟩ := checkC_ev hc0
    have ha := hlt a (by simp)
    have hb := hlt b (by simp)
    rw [if_pos h0] at HF
    rw [h0]
    clear hr1 hr2 h0 hlt
    obtain ⟨an, rfl⟩ : ∃ n : Nat, a = n := ⟨a.toNat, by omega⟩
    obtain ⟨bn, rfl⟩ : ∃ n : Nat, b = n := ⟨b.toNat, by omega⟩
    simp only [Int.toNat_natCast] at HF
    have han : an < 8 := by omega
    have hbn : bn < 8 := by omega
    have han' : (an : Int) < 8 := by omega
    have hbn' : (bn : Int) < 8 := by omega
    go_wp2_with fail
    refine (verdict_any _ c _ _ hr an bn han hbn).mono ?_
    rintro e w2 ⟨rfl, rfl⟩
    go_wp2
    go_ret2
    exact ⟨by rw [← HF.out]; rfl, hx1⟩
  · rw [if_neg h0] at HF
    have H0 := hid h0
    have hr := hr2 h0
    subst hr
    generalize hE : askedC c [a, b] = E at *
    clear hE hr1 hr2
    go_wp2
    go_ret2
    exact ⟨by rw [← HF.out]; rfl, hx1⟩
end Go.Proofs.Ytgnjhaomlbkgcaa
