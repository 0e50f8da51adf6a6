/- The walk of Latest. Printed by my gen_latest.py. -/
import Derived.Test.YtgnjhaomlbkgcaaWTruth
import Derived.Test.YtgnjhaomlbkgcaaWLiars
namespace Go.Proofs.Ytgnjhaomlbkgcaa
open Go Go.RowKit Go.Shelf
set_option linter.unusedVariables false
set_option linter.unusedSimpArgs false

def rowG (g : Mat) (n : Nat) : List Int := (List.range n).map fun x => g 0 x
theorem rowG_len (g : Mat) (n : Nat) : (rowG g n).length = n := by simp [rowG]
theorem rowG_get (g : Mat) {n k : Nat} (h : k < n) : (rowG g n)[k]? = some (g 0 k) := by
  unfold rowG
  rw [List.getElem?_map, List.getElem?_range h]; rfl
/-- The error of Latest; its row is rowG of the gaps. -/
def latestC (c : Cs) : Int := if toldC c ≠ 0 then toldC c else if memI 1099511627776 (rowG (gapsM allT c) c.ev.toNat) then 6 else 0

set_option maxRecDepth 100000 in
set_option maxHeartbeats 2000000 in
theorem latest_any (v : Value) (c : Cs) (w : World) (hc : CsR w v c) (hs : c.sized) :
    Calls Try.prog 30 #[v] w fun e w' => ∃ r, e = .returned (.tuple #[r, .int .i64 (latestC c)]) ∧ Ext w w' ∧ (latestC c = 0 → ∃ A' c', r = .slice A' c.ev.toNat c' ∧ Ints w' A' (rowG (gapsM allT c) c.ev.toNat)) ∧ (latestC c ≠ 0 → r = .slice none 0 0) := by
  have hc' := hc
  obtain ⟨A1, c1, A2, c2, rfl, hB, hC⟩ := hc
  obtain ⟨T, hT⟩ : ∃ T, toldC c = T := ⟨_, rfl⟩
  have HT := hid hT
  obtain ⟨n, hn0⟩ : ∃ n : Nat, c.ev.toNat = n := ⟨_, rfl⟩
  have HEV := hid hn0
  obtain ⟨F, hF⟩ : ∃ F, latestC c = F := ⟨_, rfl⟩
  have HF : Hid ((if toldC c ≠ 0 then toldC c else if memI 1099511627776 (rowG (gapsM allT c) c.ev.toNat) then 6 else 0) = F) := hF
  rw [hF, hn0]
  clear hT hF hn0
  go_enter Try.func30, Try.ntmps30
  go_wp2_with fail
  have hx0 : Ext w (w.alloc (.cells #[.int .i64 c.ev, .slice A1 c.bs.length c1, .int .i64 c.wi, .slice A2 c.cl.length c2] 26)) := Ext.alloc (Ext.refl w) _
  refine (told_any _ c _ (hc'.ext hx0) hs).mono ?_
  rintro e w1 ⟨r, rfl, hb1, hr1, hr2⟩
  have hx1 := hx0.trans hb1
  have kc0 := hb1.cell (p := ⟨w.heap.size, 0, none⟩) (u := .int .i64 c.ev) (by simp [go_sem])
  rw [HT.out] at hr1 hr2 HF ⊢
  by_cases h0 : T = 0
  case neg =>
    have hr := hr2 h0
    subst hr
    have H0 := hid h0
    have HFT : Hid (F = T) := by have := HF.out; rw [if_pos h0] at this; exact this.symm
    clear hr1 hr2 HF
    go_wp2
    go_ret2
    refine ⟨.slice none 0 0, (by rw [HFT.out]; rfl), hx1, fun h => absurd (HFT.out.symm.trans h) H0.out, fun _ => rfl⟩
  have hr := hr1 h0
  have HT0 : toldC c = 0 := HT.out.trans h0
  have H0 := toldC_check HT0
  subst h0
  clear hr1 hr2 HT
  obtain ⟨D, B1, k1, B2, k2, rfl, hd, _, _⟩ := hr
  obtain ⟨ev1, ev8⟩ := checkC_ev H0
  have hn : c.ev = (n : Int) := by have := HEV.out; omega
  have HF2 : Hid ((if memI 1099511627776 (rowG (gapsM allT c) n) then (6 : Int) else 0) = F) := by
    have := HF.out
    rw [if_neg (by simp), HEV.out] at this
    exact this
  rw [hn] at kc0
  have hn1 : 1 ≤ n := by omega
  have hn8 : n ≤ 8 := by omega
  clear HF HT0 H0
  generalize hG : gapsM allT c = g at *
  have HG := hid hG
  clear hG
  have HI : Hid (Ints w1 (some ⟨D, 4, none⟩) (rowG g n)) := .inr ⟨D, 4, rfl, fun j u hu => by
    rw [List.getElem?_map] at hu
    rcases Nat.lt_or_ge j n with h | h
    · rw [rowG_get g h] at hu
      cases hu
      have := hd.at_ (a := 0) (b := j) (by omega) (by omega)
      simpa using this
    · rw [List.getElem?_eq_none (by rw [rowG_len]; omega)] at hu; cases hu⟩
  have hni8 : (n : Int) ≤ 8 := by omega
  have hni0 : ¬ (n : Int) < 0 := by omega
  have FX : Hid (∀ w', Ext w1 w' → w'.cell? ⟨w.heap.size, 0, none⟩ = some (.int .i64 (n : Int))) := fun w' h => h.cell kc0
  clear hd kc0 hn ev1 ev8
  go_wp2
  refine wp_region_opens Ext (fun w' => Ext w1 w') (fun | 7 => some (fun v w' => ∃ A' c', v = .slice A' n c' ∧ Ints w' A' (rowG g n)) | _ => none) (by kernel_rfl) (by kernel_rfl) (ext_up w1) ?hT (Ext.drew (Ext.refl w1)) ?_
  case hT =>
    intro i R hR
    match i, hR with
    | 7, hR => cases hR; exact fun _ _ _ ⟨A', c', e1, e2⟩ k => ⟨A', c', e1, e2.ext k⟩
  refine wpM_val ?ua0 rfl rfl Ext.refl (fun w' hD => ?ha0) ?na0
  case ha0 =>
    have d0 := FX.out w' hD.1
    go_simp; rfl
  simp only [Act.put, List.setIfInBounds_toArray, List.set_cons_succ, List.set_cons_zero, Nat.reduceAdd]
  refine wpM_val ?ua1 rfl rfl Ext.refl (fun w' hD => ?ha1) ?na1
  case ha1 =>
    have d0 := FX.out w' hD.1
    go_simp; rfl
  simp only [Act.put, List.setIfInBounds_toArray, List.set_cons_succ, List.set_cons_zero, Nat.reduceAdd]
  refine wpM_val ?ua2 rfl rfl Ext.refl (fun w' hD => ?ha2) ?na2
  case ha2 =>
    have d0 := FX.out w' hD.1
    go_simp; rfl
  simp only [Act.put, List.setIfInBounds_toArray, List.set_cons_succ, List.set_cons_zero, Nat.reduceAdd]
  refine wpM_val ?ua3 rfl rfl Ext.refl (fun w' hD => ?ha3) ?na3
  case ha3 =>
    have d0 := FX.out w' hD.1
    go_simp; rfl
  simp only [Act.put, List.setIfInBounds_toArray, List.set_cons_succ, List.set_cons_zero, Nat.reduceAdd]
  refine wpM_val ?ua4 rfl rfl Ext.refl (fun w' hD => ?ha4) ?na4
  case ha4 =>
    have d0 := FX.out w' hD.1
    go_simp; rfl
  simp only [Act.put, List.setIfInBounds_toArray, List.set_cons_succ, List.set_cons_zero, Nat.reduceAdd]
  refine wpM_val ?ua5 rfl rfl Ext.refl (fun w' hD => ?ha5) ?na5
  case ha5 =>
    have d0 := FX.out w' hD.1
    go_simp; rfl
  simp only [Act.put, List.setIfInBounds_toArray, List.set_cons_succ, List.set_cons_zero, Nat.reduceAdd]
  refine wpM_val ?ua6 rfl rfl Ext.refl (fun w' hD => ?ha6) ?na6
  case ha6 =>
    have d0 := FX.out w' hD.1
    go_simp; rfl
  simp only [Act.put, List.setIfInBounds_toArray, List.set_cons_succ, List.set_cons_zero, Nat.reduceAdd]
  refine wpM_op _ rfl rfl (opens_call ?fa7 ?ga7 (fun w' hD => ?ha7) (fun w' hD => ?ca7)) (fun v7 hv7 => ?na7)
  case ha7 => go_simp; constructor <;> rfl
  case ca7 =>
    have hI' := (HI.out.ext hD.1)
    have K := clone_int (some ⟨D, 4, none⟩) 8 (rowG g n) w' hI' (by rw [rowG_len]; omega)
    rw [rowG_len] at K
    refine K.mono ?_
    rintro e w2 ⟨A', c', rfl, ho, -, hx⟩
    exact ⟨_, rfl, hx, A', c', rfl, Rd.of_own ho⟩
  obtain ⟨_, -, -, A', c', rfl, -⟩ := hv7
  simp only [Act.put, List.setIfInBounds_toArray, List.set_cons_succ, List.set_cons_zero, Nat.reduceAdd]
  refine wpM_val ?ua8 rfl rfl Ext.refl (fun w' hD => ?ha8) ?na8
  case ha8 =>
    have d0 := FX.out w' hD.1
    go_simp; rfl
  simp only [Act.put, List.setIfInBounds_toArray, List.set_cons_succ, List.set_cons_zero, Nat.reduceAdd]
  refine wpM_nil ?_
  intro w9 hw9 hF9
  have hx9 := hx1.trans hw9
  have hI9 : Ints w9 A' (rowG g n) := by
    obtain ⟨-, A2, c2, e2, h2⟩ := hF9 7
    cases e2; exact h2
  clear hF9 FX
  go_wp2_with fail
  have K := containsI_any 1099511627776 A' c' (rowG g n) w9 hI9 (by rw [rowG_len]; omega)
  rw [rowG_len] at K
  refine K.mono ?_
  rintro e w10 ⟨rfl, rfl⟩
  have HR := hid hI9
  cases hm : memI 1099511627776 (rowG g n)
  · have HF3 : Hid ((0 : Int) = F) := by have := HF2.out; rw [hm] at this; exact this
    go_wp2
    go_ret2
    exact ⟨.slice A' n c', (by rw [← HF3.out]; rfl), hx9, fun _ => ⟨A', c', rfl, by rw [HG.out]; exact HR.out⟩, fun h => absurd HF3.out.symm h⟩
  · have HF3 : Hid ((6 : Int) = F) := by have := HF2.out; rw [hm] at this; exact this
    go_wp2
    go_ret2
    exact ⟨.slice none 0 0, (by rw [← HF3.out]; rfl), hx9, fun h => absurd (HF3.out.trans h) (by decide), fun _ => rfl⟩
end Go.Proofs.Ytgnjhaomlbkgcaa
