/- The walks of Liars and Needed. -/
import Derived.Test.YtgnjhaomlbkgcaaWLiars
namespace Go.Proofs.Ytgnjhaomlbkgcaa
open Go Go.RowKit Go.Shelf
set_option linter.unusedVariables false
set_option linter.unusedSimpArgs false

def liarsP (c : Cs) (l : List Int) : Bool := !clashM (gapsM (fun n => !memI n l) c)
def neededP (c : Cs) (a b : Nat) (l : List Int) : Bool := verdictM (gapsM (fun n => memI n l) c) a b == 1

theorem liars11_fn (w : World) (B : Nat) (A : Option Addr) (k : Nat) (l : List Int) (hB : w.cell? ⟨B, 0, none⟩ = some (.slice A l.length k)) (hA : Ints w A l) (hl : l.length ≤ 9223372036854775807) :
    FnP Try.prog (.func (.func 114) #[] #[.pointer (some ⟨B, 0, none⟩)]) w IntR anyx (fun n => !memI n l) := by
  refine ⟨_, _, _, rfl, enters_of Try.func114 (by kernel_rfl) rfl, fun x v2 W _ hW hR => ?_⟩
  obtain rfl : v2 = .int .i64 x := hR
  have hcell := hW.cell hB
  show Calls _ _ #[_, _] _ _
  go_enter Try.func114, Try.ntmps114
  go_wp2_with fail
  refine (containsI_any x A k l W (hA.kc hW) hl).mono ?_
  rintro e w1 ⟨rfl, rfl⟩
  go_wp2
  go_ret
  exact ⟨rfl, Ext.refl _⟩
theorem needed11_fn (w : World) (B : Nat) (A : Option Addr) (k : Nat) (l : List Int) (hB : w.cell? ⟨B, 0, none⟩ = some (.slice A l.length k)) (hA : Ints w A l) (hl : l.length ≤ 9223372036854775807) :
    FnP Try.prog (.func (.func 116) #[] #[.pointer (some ⟨B, 0, none⟩)]) w IntR anyx (fun n => memI n l) := by
  refine ⟨_, _, _, rfl, enters_of Try.func116 (by kernel_rfl) rfl, fun x v2 W _ hW hR => ?_⟩
  obtain rfl : v2 = .int .i64 x := hR
  have hcell := hW.cell hB
  show Calls _ _ #[_, _] _ _
  go_enter Try.func116, Try.ntmps116
  go_wp2_with fail
  refine (containsI_any x A k l W (hA.kc hW) hl).mono ?_
  rintro e w1 ⟨rfl, rfl⟩
  go_wp2
  go_ret
  exact ⟨rfl, Ext.refl _⟩

/-- The box of a case. -/
def CaseAt (w : World) (B : Nat) (c : Cs) : Prop := ∃ A1 c1 A2 c2, w.cell? ⟨B, 0, none⟩ = some (.int .i64 c.ev) ∧ w.cell? ⟨B, 1, none⟩ = some (.slice A1 c.bs.length c1) ∧ w.cell? ⟨B, 2, none⟩ = some (.int .i64 c.wi) ∧ w.cell? ⟨B, 3, none⟩ = some (.slice A2 c.cl.length c2) ∧ Bounds w A1 c.bs ∧ Claims w A2 c.cl
theorem CaseAt.kc {w w' : World} {B : Nat} {c : Cs} (h : CaseAt w B c) (hx : Kc w w') : CaseAt w' B c := by
  obtain ⟨A1, c1, A2, c2, h0, h1, h2, h3, h4, h5⟩ := h
  exact ⟨A1, c1, A2, c2, hx _ _ h0, hx _ _ h1, hx _ _ h2, hx _ _ h3, h4.kc hx, h5.kc hx⟩

set_option maxRecDepth 100000 in
set_option maxHeartbeats 1000000 in
theorem liars1_fn (w : World) (B : Nat) (c : Cs) (hB : CaseAt w B c) (h0 : checkC c = 0) (hs : c.sized) :
    FnP Try.prog (.func (.func 112) #[] #[.pointer (some ⟨B, 0, none⟩)]) w IntsR (fun l => l.length ≤ 6) (liarsP c) := by
  refine ⟨_, _, _, rfl, enters_of Try.func112 (by kernel_rfl) rfl, fun l v2 W hl hW hR => ?_⟩
  obtain ⟨A, k, rfl, hI⟩ := hR
  obtain ⟨A1, c1, A2, c2, e0, e1, e2, e3, hBo, hCl⟩ := hB.kc hW
  have hl63 : l.length ≤ 9223372036854775807 := by omega
  have H0 := hid h0
  clear h0 hB
  have hxa : Ext W (W.alloc (.cells #[.slice A l.length k] 27)) := Ext.alloc (Ext.refl W) _
  have f0 := hxa.cell e0
  have f1 := hxa.cell e1
  have f2 := hxa.cell e2
  have f3 := hxa.cell e3
  have hf := liars11_fn (W.alloc (.cells #[.slice A l.length k] 27)) W.heap.size A k l (by simp [go_sem]) (hI.ext hxa) hl63
  show Calls _ _ #[_, _] _ _
  go_enter Try.func112, Try.ntmps112
  go_wp2_with fail
  refine (worked_any _ _ _ c (fun n => !memI n l) _ rfl ⟨A1, c1, A2, c2, rfl, hBo.ext hxa, hCl.ext hxa⟩ hf (checkC_bd H0.out) (checkC_52 H0.out) hs).mono ?_
  rintro e w1 ⟨r, rfl, hd, hb⟩
  go_wp2_with fail
  refine (clash_any r c _ w1 hd).mono ?_
  rintro e w2 ⟨rfl, rfl⟩
  go_wp2
  go_ret
  exact ⟨rfl, hxa.trans hb⟩

theorem checkC_wi {c : Cs} (h : checkC c = 0) : 0 ≤ c.wi ∧ c.wi ≤ 6 := by
  obtain ⟨_, _, _, h4, h5, _⟩ := manyOK_parts (checkC_ok h).1
  exact ⟨h4, h5⟩

def liarsC (c : Cs) : Int := if checkC c ≠ 0 then checkC c else match fewL (liarsP c) c.wi.toNat with | some _ => 0 | none => 7

set_option maxRecDepth 100000 in
set_option maxHeartbeats 1000000 in
theorem liars_any (v : Value) (c : Cs) (w : World) (hc : CsR w v c) (hs : c.sized) :
    Calls Try.prog 58 #[v] w fun e w' => ∃ r, e = .returned (.tuple #[r, .int .i64 (liarsC c)]) ∧ Ext w w' ∧ (liarsC c ≠ 0 → r = .slice none 0 0) ∧
      (liarsC c = 0 → ∃ l A' c', fewL (liarsP c) c.wi.toNat = some l ∧ r = .slice A' l.length c' ∧ Ints w' A' l) := by
  have hc' := hc
  obtain ⟨A1, c1, A2, c2, rfl, hB, hC⟩ := hc
  generalize hT : liarsC c = T
  have HT : Hid ((if checkC c ≠ 0 then checkC c else match fewL (liarsP c) c.wi.toNat with | some _ => 0 | none => 7) = T) := hT
  clear hT
  obtain ⟨wi, hwn⟩ : ∃ wi, c.wi.toNat = wi := ⟨_, rfl⟩
  rw [hwn] at HT ⊢
  go_enter Try.func58, Try.ntmps58
  go_wp2_with fail
  have hx0 : Ext w (w.alloc (.cells #[.int .i64 c.ev, .slice A1 c.bs.length c1, .int .i64 c.wi, .slice A2 c.cl.length c2] 26)) := Ext.alloc (Ext.refl w) _
  refine (check_any _ c _ (hc'.ext hx0) hs).mono ?_
  rintro e w1 ⟨rfl, hb1⟩
  have hx1 := hx0.trans hb1
  have kc0 := hb1.cell (p := ⟨w.heap.size, 0, none⟩) (u := .int .i64 c.ev) (by simp [go_sem])
  have kc1 := hb1.cell (p := ⟨w.heap.size, 1, none⟩) (u := .slice A1 c.bs.length c1) (by simp [go_sem])
  have kc2 := hb1.cell (p := ⟨w.heap.size, 2, none⟩) (u := .int .i64 c.wi) (by simp [go_sem])
  have kc3 := hb1.cell (p := ⟨w.heap.size, 3, none⟩) (u := .slice A2 c.cl.length c2) (by simp [go_sem])
  by_cases h0 : checkC c = 0
  · have H0 := hid h0
    have HT2 : Hid ((match fewL (liarsP c) wi with | some _ => (0 : Int) | none => 7) = T) := by unfold Hid; rw [← HT.out, if_neg (by simp [h0])]
    rw [h0]
    clear h0 HT
    obtain ⟨wi0, wi6⟩ := checkC_wi H0.out
    have hwi6 : wi ≤ 6 := by omega
    have HWI : Hid (c.wi = wi) := by unfold Hid; omega
    clear hwn
    have hfn := liars1_fn w1 w.heap.size c ⟨A1, c1, A2, c2, kc0, kc1, kc2, kc3, hB.ext hx1, hC.ext hx1⟩ H0.out hs
    go_wp2_with fail
    refine (fewest_any _ c _ (liarsP c) wi w1 hwi6 HWI.out (hc'.ext hx1) hfn).mono ?_
    rintro e w2 ⟨ov, rfl, hb2, hr2⟩
    cases hq : fewL (liarsP c) wi with
    | some r =>
      have HQ : Hid (T = 0) := by unfold Hid; rw [← HT2.out, hq]
      have HS := hid hq
      obtain ⟨A5, c5, rfl, hI5⟩ := hr2 r hq
      clear hr2
      go_wp2
      go_ret2
      exact ⟨.slice A5 r.length c5, by rw [HQ.out]; rfl, hx1.trans hb2, fun h => absurd HQ.out h, fun _ => ⟨r, A5, c5, HS.out, rfl, hI5⟩⟩
    | none =>
      have HQ : Hid (T = 7) := by unfold Hid; rw [← HT2.out, hq]
      clear hr2
      go_wp2
      go_ret2
      exact ⟨.slice none 0 0, by rw [HQ.out]; rfl, hx1.trans hb2, fun _ => rfl, fun h => (by rw [HQ.out] at h; cases h)⟩
  · have HT2 : Hid (T = checkC c) := by unfold Hid; rw [← HT.out, if_pos h0]
    have H0 := hid h0
    generalize hE : checkC c = E at *
    clear hE
    go_wp2
    go_ret2
    exact ⟨.slice none 0 0, by rw [HT2.out]; rfl, hx1, fun _ => rfl, fun h => absurd (HT2.out.symm.trans h) H0.out⟩

/-! Needed -/
def neededC (c : Cs) (a b : Int) : Int := if askedC c [a, b] ≠ 0 then askedC c [a, b] else match fewL (neededP c a.toNat b.toNat) c.wi.toNat with | some _ => 0 | none => 6
end Go.Proofs.Ytgnjhaomlbkgcaa
