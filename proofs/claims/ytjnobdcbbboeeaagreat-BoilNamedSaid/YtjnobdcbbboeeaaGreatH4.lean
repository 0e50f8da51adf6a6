/- The library's IndexFunc and ContainsFunc, and the program's every, over the kinds of elements of layer 8, whatever the function value (it may lay new blocks). Printed by gen_bslices.py. The walks of boil's small functions: in, above, lowest, least, most, month, weighing, under; the closures of Check. The walks of least, most and greatest. The walk of boil.Check, and of its closures. -/
import Derived.Test.YtjnobdcbbboeeaaGreatProg
import Derived.Test.YtjnobdcbbboeeaaGreatH1
import Derived.Laws.ResultCell
import Derived.Deep.DeepCutAuto
import Derived.Deep.CutBlock
import Derived.Deep.RegionHeld3
namespace Go.Proofs.YtjnobdcbbboeeaaGreat
open Go Go.RowKit
set_option linter.unusedVariables false
set_option linter.unusedSimpArgs false

set_option maxHeartbeats 1000000 in
theorem indexFunc_int (A : Option Addr) (c : Nat) (l : List Int) (fv : Value) (S : Int → Prop) (p : Int → Bool) (w : World) (hA : Ints w A l) (hl : l.length ≤ 9223372036854775807)
    (hS : ∀ x, x ∈ l → S x) (hp : FnP Tryz.prog fv w IntR S p) :
    Calls Tryz.prog 76 #[.slice A l.length c, fv] w fun e w' => e = .returned (.int .i64 (idxF p l 0)) ∧ Ext w w' := by
  obtain ⟨g, fst, lb, rfl, eg, hcall⟩ := hp
  have HC := hid hcall
  have HS := hid hS
  clear hcall hS
  have HF : Hid (idxF p l 0 = idxF p (l.drop 0) 0) := rfl
  generalize hF : idxF p l 0 = F at HF ⊢
  clear hF
  go_enter Tryz.func76, Tryz.ntmps76
  go_wp2
  go_loopg [5, 8] l.length (fun gg _ s8 wr => ∃ kk : Nat, kk ≤ l.length ∧ l.length - kk ≤ gg ∧ s8 = .int .i64 kk ∧ Ext w wr ∧ Hid (F = idxF p (l.drop kk) kk))
  case atStart => exact ⟨0, Nat.zero_le _, by omega, rfl, Ext.refl w, HF⟩
  case round =>
    obtain ⟨kk, h1, h2, rfl, hx0, HF⟩ := hrel
    by_cases hlt : kk < l.length
    · have hlt' : (kk : Int) < (l.length : Int) := by omega
      obtain ⟨x, hx⟩ := get_of_lt l kk hlt
      have hA := hA.ext hx0
      obtain ⟨b, off, rfl, c0⟩ := hA.at_ hx
      have HX := hid hx
      clear hx
      go_wp2_with fail
      refine (HC.out x _ wr (HS.out x (mem_of_get HX.out)) hx0.kc rfl).mono ?_
      have HD := idxF_drop p l kk x HX.out
      cases hq : p x
      · rw [hq] at HD
        have HD := hid HD
        rintro e w1 ⟨rfl, hb1⟩
        go_wp2
        go_roundg (l.length - (kk + 1))
        case measure => omega
        case rel => exact ⟨kk + 1, by omega, by omega, by go_num, hx0.trans hb1, HF.out.trans (by rw [HD.out]; rfl)⟩
      · rw [hq] at HD
        have HD := hid HD
        rintro e w1 ⟨rfl, hb1⟩
        go_wp2
        go_ret
        exact ⟨ret_of (int_of (by rw [HF.out, HD.out]; rfl)), hx0.trans hb1⟩
    · have hlt' : ¬ (kk : Int) < (l.length : Int) := by omega
      go_wp2
      go_ret
      exact ⟨ret_of (int_of (by rw [HF.out, idxF_end p l kk (by omega)])), hx0⟩

set_option maxHeartbeats 400000 in
theorem containsFunc_int (A : Option Addr) (c : Nat) (l : List Int) (fv : Value) (S : Int → Prop) (p : Int → Bool) (w : World) (hA : Ints w A l) (hl : l.length ≤ 9223372036854775807)
    (hS : ∀ x, x ∈ l → S x) (hp : FnP Tryz.prog fv w IntR S p) :
    Calls Tryz.prog 46 #[.slice A l.length c, fv] w fun e w' => e = .returned (.bool (l.any p)) ∧ Ext w w' := by
  have H := hid (idxF_nonneg p l 0)
  have HS := hid hS
  clear hS
  go_enter Tryz.func46, Tryz.ntmps46
  go_wp2_with fail
  refine (indexFunc_int A c l fv S p _ hA hl HS.out hp).mono ?_
  rintro e w1 ⟨rfl, hb1⟩
  go_wp2
  go_ret
  exact ⟨ret_of (bool_of (by rw [← H.out])), hb1⟩

set_option maxHeartbeats 1000000 in
theorem indexFunc_wg (A : Option Addr) (c : Nat) (l : List Wg) (fv : Value) (S : Wg → Prop) (p : Wg → Bool) (w : World) (hA : Wgs w A l) (hl : l.length ≤ 9223372036854775807)
    (hS : ∀ x, x ∈ l → S x) (hp : FnP Tryz.prog fv w WgR S p) :
    Calls Tryz.prog 94 #[.slice A l.length c, fv] w fun e w' => e = .returned (.int .i64 (idxF p l 0)) ∧ Ext w w' := by
  obtain ⟨g, fst, lb, rfl, eg, hcall⟩ := hp
  have HC := hid hcall
  have HS := hid hS
  clear hcall hS
  have HF : Hid (idxF p l 0 = idxF p (l.drop 0) 0) := rfl
  generalize hF : idxF p l 0 = F at HF ⊢
  clear hF
  go_enter Tryz.func94, Tryz.ntmps94
  go_wp2
  go_loopg [5, 8] l.length (fun gg _ s8 wr => ∃ kk : Nat, kk ≤ l.length ∧ l.length - kk ≤ gg ∧ s8 = .int .i64 kk ∧ Ext w wr ∧ Hid (F = idxF p (l.drop kk) kk))
  case atStart => exact ⟨0, Nat.zero_le _, by omega, rfl, Ext.refl w, HF⟩
  case round =>
    obtain ⟨kk, h1, h2, rfl, hx0, HF⟩ := hrel
    by_cases hlt : kk < l.length
    · have hlt' : (kk : Int) < (l.length : Int) := by omega
      obtain ⟨x, hx⟩ := get_of_lt l kk hlt
      have hA := hA.ext hx0
      obtain ⟨b, off, rfl, c0, c1, c2, c3, c4⟩ := Wgs.at_ hA hx
      have HX := hid hx
      clear hx
      go_wp2_with fail
      refine (HC.out x _ wr (HS.out x (mem_of_get HX.out)) hx0.kc rfl).mono ?_
      have HD := idxF_drop p l kk x HX.out
      cases hq : p x
      · rw [hq] at HD
        have HD := hid HD
        rintro e w1 ⟨rfl, hb1⟩
        go_wp2
        go_roundg (l.length - (kk + 1))
        case measure => omega
        case rel => exact ⟨kk + 1, by omega, by omega, by go_num, hx0.trans hb1, HF.out.trans (by rw [HD.out]; rfl)⟩
      · rw [hq] at HD
        have HD := hid HD
        rintro e w1 ⟨rfl, hb1⟩
        go_wp2
        go_ret
        exact ⟨ret_of (int_of (by rw [HF.out, HD.out]; rfl)), hx0.trans hb1⟩
    · have hlt' : ¬ (kk : Int) < (l.length : Int) := by omega
      go_wp2
      go_ret
      exact ⟨ret_of (int_of (by rw [HF.out, idxF_end p l kk (by omega)])), hx0⟩

set_option maxHeartbeats 400000 in
theorem containsFunc_wg (A : Option Addr) (c : Nat) (l : List Wg) (fv : Value) (S : Wg → Prop) (p : Wg → Bool) (w : World) (hA : Wgs w A l) (hl : l.length ≤ 9223372036854775807)
    (hS : ∀ x, x ∈ l → S x) (hp : FnP Tryz.prog fv w WgR S p) :
    Calls Tryz.prog 73 #[.slice A l.length c, fv] w fun e w' => e = .returned (.bool (l.any p)) ∧ Ext w w' := by
  have H := hid (idxF_nonneg p l 0)
  have HS := hid hS
  clear hS
  go_enter Tryz.func73, Tryz.ntmps73
  go_wp2_with fail
  refine (indexFunc_wg A c l fv S p _ hA hl HS.out hp).mono ?_
  rintro e w1 ⟨rfl, hb1⟩
  go_wp2
  go_ret
  exact ⟨ret_of (bool_of (by rw [← H.out])), hb1⟩

set_option maxHeartbeats 400000 in
theorem every_wg (A : Option Addr) (c : Nat) (l : List Wg) (fv : Value) (S : Wg → Prop) (p : Wg → Bool) (w : World) (hA : Wgs w A l) (hl : l.length ≤ 9223372036854775807)
    (hS : ∀ x, x ∈ l → S x) (hp : FnP Tryz.prog fv w WgR S p) :
    Calls Tryz.prog 39 #[.slice A l.length c, fv] w fun e w' => e = .returned (.bool (l.all p)) ∧ Ext w w' := by
  have H := hid (all_any p l)
  have hfv : ∃ g fst lb, fv = .func (.func g) fst lb := by obtain ⟨g, fst, lb, h, _⟩ := hp; exact ⟨g, fst, lb, h⟩
  have HP := hid hp
  have HSS := hid hS
  clear hp hS
  have hq : FnP Tryz.prog (.func (.func 74) #[] #[.pointer (some ⟨w.heap.size, 0, none⟩)]) (w.alloc (.cells #[fv] 87)) WgR S (fun x => !p x) := by
    refine ⟨_, _, _, rfl, enters_of Tryz.func74 (by kernel_rfl) rfl, fun x v W hs hW hR => ?_⟩
    have HS := hid hs
    clear hs
    have hc : W.cell? ⟨w.heap.size, 0, none⟩ = some fv := hW.cell (by simp [go_sem])
    have hc2 : ∀ o, (W.alloc o).cell? ⟨w.heap.size, 0, none⟩ = some fv := fun o => (Ext.alloc (Ext.refl W) o).cell hc
    have hw : Kc w W := (Ext.alloc (Ext.refl w) _).kc.trans hW
    obtain ⟨g, fst, lb, rfl, eg, hcall⟩ := HP.out
    have HC := hid hcall
    clear hcall HP
    have HR := hid hR
    clear hR
    show Calls _ _ #[v, _] _ _
    go_enter Tryz.func74, Tryz.ntmps74
    obtain rfl : v = Wg.val x := HR.out
    unfold Wg.val
    go_wp2_with fail
    refine (HC.out x _ _ HS.out (hw.alloc _) rfl).mono ?_
    rintro e w1 ⟨rfl, hb1⟩
    go_wp2
    go_ret
    exact ⟨rfl, (Ext.alloc (Ext.refl W) _).trans hb1⟩
  obtain ⟨g0, fst0, lb0, hfv⟩ := hfv
  have HQ := hid hq
  clear hq HP
  subst hfv
  go_enter Tryz.func39, Tryz.ntmps39
  go_wp2_with fail
  refine (containsFunc_wg A c l _ S _ _ (hA.ext (Ext.alloc (Ext.refl w) _)) hl HSS.out HQ.out).mono ?_
  rintro e w1 ⟨rfl, hb1⟩
  go_wp2
  go_ret
  exact ⟨ret_of (bool_of H.out.symm), (Ext.alloc (Ext.refl w) _).trans hb1⟩

set_option maxHeartbeats 1000000 in
theorem indexFunc_rat (A : Option Addr) (c : Nat) (l : List (Int × Int)) (fv : Value) (S : (Int × Int) → Prop) (p : (Int × Int) → Bool) (w : World) (hA : Prs w A l) (hl : l.length ≤ 9223372036854775807)
    (hS : ∀ x, x ∈ l → S x) (hp : FnP Tryz.prog fv w RtR S p) :
    Calls Tryz.prog 108 #[.slice A l.length c, fv] w fun e w' => e = .returned (.int .i64 (idxF p l 0)) ∧ Ext w w' := by
  obtain ⟨g, fst, lb, rfl, eg, hcall⟩ := hp
  have HC := hid hcall
  have HS := hid hS
  clear hcall hS
  have HF : Hid (idxF p l 0 = idxF p (l.drop 0) 0) := rfl
  generalize hF : idxF p l 0 = F at HF ⊢
  clear hF
  go_enter Tryz.func108, Tryz.ntmps108
  go_wp2
  go_loopg [5, 8] l.length (fun gg _ s8 wr => ∃ kk : Nat, kk ≤ l.length ∧ l.length - kk ≤ gg ∧ s8 = .int .i64 kk ∧ Ext w wr ∧ Hid (F = idxF p (l.drop kk) kk))
  case atStart => exact ⟨0, Nat.zero_le _, by omega, rfl, Ext.refl w, HF⟩
  case round =>
    obtain ⟨kk, h1, h2, rfl, hx0, HF⟩ := hrel
    by_cases hlt : kk < l.length
    · have hlt' : (kk : Int) < (l.length : Int) := by omega
      obtain ⟨x, hx⟩ := get_of_lt l kk hlt
      have hA := hA.ext hx0
      obtain ⟨b, off, rfl, c0, c1⟩ := Prs.at_ hA hx
      have HX := hid hx
      clear hx
      go_wp2_with fail
      refine (HC.out x _ wr (HS.out x (mem_of_get HX.out)) hx0.kc rfl).mono ?_
      have HD := idxF_drop p l kk x HX.out
      cases hq : p x
      · rw [hq] at HD
        have HD := hid HD
        rintro e w1 ⟨rfl, hb1⟩
        go_wp2
        go_roundg (l.length - (kk + 1))
        case measure => omega
        case rel => exact ⟨kk + 1, by omega, by omega, by go_num, hx0.trans hb1, HF.out.trans (by rw [HD.out]; rfl)⟩
      · rw [hq] at HD
        have HD := hid HD
        rintro e w1 ⟨rfl, hb1⟩
        go_wp2
        go_ret
        exact ⟨ret_of (int_of (by rw [HF.out, HD.out]; rfl)), hx0.trans hb1⟩
    · have hlt' : ¬ (kk : Int) < (l.length : Int) := by omega
      go_wp2
      go_ret
      exact ⟨ret_of (int_of (by rw [HF.out, idxF_end p l kk (by omega)])), hx0⟩

set_option maxHeartbeats 400000 in
theorem containsFunc_rat (A : Option Addr) (c : Nat) (l : List (Int × Int)) (fv : Value) (S : (Int × Int) → Prop) (p : (Int × Int) → Bool) (w : World) (hA : Prs w A l) (hl : l.length ≤ 9223372036854775807)
    (hS : ∀ x, x ∈ l → S x) (hp : FnP Tryz.prog fv w RtR S p) :
    Calls Tryz.prog 92 #[.slice A l.length c, fv] w fun e w' => e = .returned (.bool (l.any p)) ∧ Ext w w' := by
  have H := hid (idxF_nonneg p l 0)
  have HS := hid hS
  clear hS
  go_enter Tryz.func92, Tryz.ntmps92
  go_wp2_with fail
  refine (indexFunc_rat A c l fv S p _ hA hl HS.out hp).mono ?_
  rintro e w1 ⟨rfl, hb1⟩
  go_wp2
  go_ret
  exact ⟨ret_of (bool_of (by rw [← H.out])), hb1⟩

set_option maxHeartbeats 400000 in
theorem every_rat (A : Option Addr) (c : Nat) (l : List (Int × Int)) (fv : Value) (S : (Int × Int) → Prop) (p : (Int × Int) → Bool) (w : World) (hA : Prs w A l) (hl : l.length ≤ 9223372036854775807)
    (hS : ∀ x, x ∈ l → S x) (hp : FnP Tryz.prog fv w RtR S p) :
    Calls Tryz.prog 70 #[.slice A l.length c, fv] w fun e w' => e = .returned (.bool (l.all p)) ∧ Ext w w' := by
  have H := hid (all_any p l)
  have hfv : ∃ g fst lb, fv = .func (.func g) fst lb := by obtain ⟨g, fst, lb, h, _⟩ := hp; exact ⟨g, fst, lb, h⟩
  have HP := hid hp
  have HSS := hid hS
  clear hp hS
  have hq : FnP Tryz.prog (.func (.func 93) #[] #[.pointer (some ⟨w.heap.size, 0, none⟩)]) (w.alloc (.cells #[fv] 119)) RtR S (fun x => !p x) := by
    refine ⟨_, _, _, rfl, enters_of Tryz.func93 (by kernel_rfl) rfl, fun x v W hs hW hR => ?_⟩
    have HS := hid hs
    clear hs
    have hc : W.cell? ⟨w.heap.size, 0, none⟩ = some fv := hW.cell (by simp [go_sem])
    have hc2 : ∀ o, (W.alloc o).cell? ⟨w.heap.size, 0, none⟩ = some fv := fun o => (Ext.alloc (Ext.refl W) o).cell hc
    have hw : Kc w W := (Ext.alloc (Ext.refl w) _).kc.trans hW
    obtain ⟨g, fst, lb, rfl, eg, hcall⟩ := HP.out
    have HC := hid hcall
    clear hcall HP
    have HR := hid hR
    clear hR
    show Calls _ _ #[v, _] _ _
    go_enter Tryz.func93, Tryz.ntmps93
    obtain rfl : v = pval x := HR.out
    unfold pval
    go_wp2_with fail
    refine (HC.out x _ _ HS.out (hw.alloc _) rfl).mono ?_
    rintro e w1 ⟨rfl, hb1⟩
    go_wp2
    go_ret
    exact ⟨rfl, (Ext.alloc (Ext.refl W) _).trans hb1⟩
  obtain ⟨g0, fst0, lb0, hfv⟩ := hfv
  have HQ := hid hq
  clear hq HP
  subst hfv
  go_enter Tryz.func70, Tryz.ntmps70
  go_wp2_with fail
  refine (containsFunc_rat A c l _ S _ _ (hA.ext (Ext.alloc (Ext.refl w) _)) hl HSS.out HQ.out).mono ?_
  rintro e w1 ⟨rfl, hb1⟩
  go_wp2
  go_ret
  exact ⟨ret_of (bool_of H.out.symm), (Ext.alloc (Ext.refl w) _).trans hb1⟩
end Go.Proofs.YtjnobdcbbboeeaaGreat

namespace Go.Proofs.YtjnobdcbbboeeaaGreat
open Go Go.RowKit Go.Shelf
set_option linter.unusedVariables false
set_option linter.unusedSimpArgs false

theorem in_any (n lo hi : Int) (w : World) : Calls Tryz.prog 38 #[.int .i64 n, .int .i64 lo, .int .i64 hi] w fun e w' => e = .returned (.bool (inB n lo hi)) ∧ w = w' := by
  by_cases h1 : lo ≤ n
  · by_cases h2 : n ≤ hi
    · have H := hid (show inB n lo hi = true by simp [inB, h1, h2])
      go_enter Tryz.func38, Tryz.ntmps38
      go_wp2
      go_ret
      exact ⟨ret_of (bool_of H.out.symm), rfl⟩
    · have H := hid (show inB n lo hi = false by simp [inB, h2])
      go_enter Tryz.func38, Tryz.ntmps38
      go_wp2
      go_ret
      exact ⟨ret_of (bool_of H.out.symm), rfl⟩
  · have H := hid (show inB n lo hi = false by simp only [inB, h1]; simp)
    go_enter Tryz.func38, Tryz.ntmps38
    go_wp2
    go_ret
    exact ⟨ret_of (bool_of H.out.symm), rfl⟩
theorem month_any (v : Value) (h : Hs) (n : Int) (w : World) (hr : HsR w v h) (hb : 1 ≤ h.mo ∧ h.mo ≤ 12) :
    Calls Tryz.prog 36 #[v, .int .i64 n] w fun e w' => e = .returned (.bool (moOK h n)) ∧ Ext w w' := by
  obtain ⟨A, c, rfl, -⟩ := hr
  unfold hval
  go_enter Tryz.func36, Tryz.ntmps36
  go_wp2_with fail
  refine (in_any _ _ _ _).mono ?_
  rintro e w1 ⟨rfl, rfl⟩
  go_wp2
  go_ret
  exact ⟨rfl, Ext.alloc (Ext.refl w) _⟩
theorem weighing_any (v : Value) (h : Hs) (n : Int) (w : World) (hr : HsR w v h) (hb : h.ws.length ≤ 9223372036854775807) :
    Calls Tryz.prog 45 #[v, .int .i64 n] w fun e w' => e = .returned (.bool (wgOK h n)) ∧ Ext w w' := by
  obtain ⟨A, c, rfl, -⟩ := hr
  unfold hval
  go_enter Tryz.func45, Tryz.ntmps45
  go_wp2_with fail
  refine (in_any _ _ _ _).mono ?_
  rintro e w1 ⟨rfl, rfl⟩
  go_wp2
  go_ret
  exact ⟨rfl, Ext.alloc (Ext.refl w) _⟩
/-- The bound method h.month as a function value. -/
theorem month_fn (v : Value) (h : Hs) (w : World) (hr : HsR w v h) (hb : 1 ≤ h.mo ∧ h.mo ≤ 12) : FnP Tryz.prog (.func (.func 36) #[v] #[]) w IntR anyx (moOK h) := by
  refine ⟨_, _, _, rfl, enters_of Tryz.func36 (by kernel_rfl) rfl, fun x v2 W _ hW hR => ?_⟩
  obtain rfl : v2 = .int .i64 x := hR
  exact month_any v h x W (hr.kc hW) hb
theorem under_any (v : Value) (h : Hs) (a b : Int) (w : World) (hr : HsR w v h) :
    Calls Tryz.prog 62 #[v, .int .i64 a, .int .i64 b] w fun e w' => e = .returned (.bool (undH h a b)) ∧ Ext w w' := by
  obtain ⟨A, c, rfl, -⟩ := hr
  unfold hval
  obtain ⟨P, hP⟩ : ∃ P, h.pk = P := ⟨_, rfl⟩
  have HU : Hid (undH h a b = ((decide (a ≤ b) && decide (b ≤ P)) || (decide (P ≤ b) && decide (b ≤ a)))) := by unfold Hid undH; rw [hP]
  rw [hP]
  clear hP
  by_cases h1 : a ≤ b
  · by_cases h2 : b ≤ P
    · have H := hid (show undH h a b = true by rw [HU.out]; simp [h1, h2])
      go_enter Tryz.func62, Tryz.ntmps62
      go_wp2
      go_ret
      exact ⟨ret_of (bool_of H.out.symm), Ext.alloc (Ext.refl w) _⟩
    · by_cases h3 : P ≤ b
      · by_cases h4 : b ≤ a
        · have H := hid (show undH h a b = true by rw [HU.out]; simp [h3, h4])
          go_enter Tryz.func62, Tryz.ntmps62
          go_wp2
          go_ret
          exact ⟨ret_of (bool_of H.out.symm), Ext.alloc (Ext.refl w) _⟩
        · have H := hid (show undH h a b = false by rw [HU.out]; simp [h2, h4])
          go_enter Tryz.func62, Tryz.ntmps62
          go_wp2
          go_ret
          exact ⟨ret_of (bool_of H.out.symm), Ext.alloc (Ext.refl w) _⟩
      · exact absurd (show P ≤ b by omega) h3
  · by_cases h3 : P ≤ b
    · have h4 : b ≤ a := by omega
      have H := hid (show undH h a b = true by rw [HU.out]; simp [h3, h4])
      go_enter Tryz.func62, Tryz.ntmps62
      go_wp2
      go_ret
      exact ⟨ret_of (bool_of H.out.symm), Ext.alloc (Ext.refl w) _⟩
    · have H := hid (show undH h a b = false by rw [HU.out]; simp [h1, h3])
      go_enter Tryz.func62, Tryz.ntmps62
      go_wp2
      go_ret
      exact ⟨ret_of (bool_of H.out.symm), Ext.alloc (Ext.refl w) _⟩
/-- Ratios whose products are numbers. -/
def Rsm (r : Rt) : Prop := (0 ≤ r.1 ∧ r.1 ≤ 1000000) ∧ (0 ≤ r.2 ∧ r.2 ≤ 1000000)
theorem mul_small {x y : Int} (hx : 0 ≤ x ∧ x ≤ 1000000) (hy : 0 ≤ y ∧ y ≤ 1000000) : 0 ≤ x * y ∧ x * y ≤ 1000000000000 :=
  ⟨Int.mul_nonneg hx.1 hy.1, Int.le_trans (Int.mul_le_mul hx.2 hy.2 hy.1 (by decide)) (by decide)⟩
theorem above_any (a b : Rt) (w : World) (ha : Rsm a) (hb : Rsm b) :
    Calls Tryz.prog 33 #[rval a, rval b] w fun e w' => e = .returned (.bool (abv a b)) ∧ Ext w w' := by
  have p1 := mul_small ha.1 hb.2
  have p2 := mul_small hb.1 ha.2
  have H1 : IntKind.i64.wrap (a.1 * b.2) = a.1 * b.2 := IntWalk.i64_in _ ⟨by omega, by omega⟩
  have H2 : IntKind.i64.wrap (b.1 * a.2) = b.1 * a.2 := IntWalk.i64_in _ ⟨by omega, by omega⟩
  clear p1 p2
  unfold rval
  go_enter Tryz.func33, Tryz.ntmps33
  go_wp2
  go_ret
  exact ⟨rfl, Ext.alloc (Ext.alloc (Ext.refl w) _) _⟩
theorem rat_put {w : World} {B : Nat} {u v : Value} {T : TypeId} (h : w.heap[B]? = some (.cells #[u, v] T (0, 0))) (x y : Value) : ((w.setCell ⟨B, 0, none⟩ x).setCell ⟨B, 1, none⟩ y).heap[B]? = some (.cells #[x, y] T (0, 0)) := by
  simp [World.setCell, Array.getElem?_modify, h]
theorem rat_cells {w : World} {B : Nat} {x y : Value} {T : TypeId} (h : w.heap[B]? = some (.cells #[x, y] T (0, 0))) : w.cell? ⟨B, 0, none⟩ = some x ∧ w.cell? ⟨B, 1, none⟩ = some y ∧ ∀ i, w.frozen? ⟨B, i, none⟩ = false :=
  ⟨by rw [cell_of_row w B 0 _ _ _ h]; rfl, by rw [cell_of_row w B 1 _ _ _ h]; rfl, fun i => by simp [World.frozen?, h]⟩
theorem gcdZ_step {a b : Int} (ha : 0 ≤ a) (hb : 0 < b) : gcdZ a b = gcdZ b (a.tmod b) := by
  have e : a.tmod b = a % b := Int.tmod_eq_emod_of_nonneg ha
  have h1 := Int.emod_nonneg a (show b ≠ 0 by omega)
  have h2 := Int.emod_lt_of_pos a hb
  unfold gcdZ
  rw [show gcdT (b.toNat + 1) a b = gcdT b.toNat b (a.tmod b) by rw [gcdT, if_pos hb]]
  exact gcdT_more _ _ b (a.tmod b) (by omega) (by omega) (by omega) (by omega)
theorem gcdZ_end (a : Int) : gcdZ a 0 = a := by
  unfold gcdZ
  rw [gcdT, if_neg (by decide)]
set_option maxHeartbeats 1000000 in
theorem lowest_any (n d : Int) (w : World) (hn : 0 < n ∧ n ≤ 1000000) (hd : 0 < d ∧ d ≤ 1000000) :
    Calls Tryz.prog 72 #[.int .i64 n, .int .i64 d] w fun e w' => e = .returned (rval (lowR n d)) ∧ Ext w w' := by
  have hg := gcdZ_ok hn.1 hd.1
  obtain ⟨g, hgg⟩ : ∃ g, gcdZ n d = g := ⟨_, rfl⟩
  have HV : Hid (lowR n d = (n.tdiv g, d.tdiv g)) := by unfold Hid lowR; rw [hgg]
  rw [hgg] at hg
  have HG := hid hgg
  have hg0 := hg.1
  have q1 : 0 ≤ n.tdiv g ∧ n.tdiv g ≤ n := ⟨Int.tdiv_nonneg (by omega) (by omega), by rw [Int.tdiv_eq_ediv_of_nonneg (by omega)]; exact Int.ediv_le_self _ (by omega)⟩
  have q2 : 0 ≤ d.tdiv g ∧ d.tdiv g ≤ d := ⟨Int.tdiv_nonneg (by omega) (by omega), by rw [Int.tdiv_eq_ediv_of_nonneg (by omega)]; exact Int.ediv_le_self _ (by omega)⟩
  have W1 : IntKind.i64.wrap (n.tdiv g) = n.tdiv g := IntWalk.i64_in _ ⟨by omega, by omega⟩
  have W2 : IntKind.i64.wrap (d.tdiv g) = d.tdiv g := IntWalk.i64_in _ ⟨by omega, by omega⟩
  have hgn : ¬ g = 0 := by omega
  clear hgg hg q1 q2
  have HX0 : Hid (∀ o, Ext w (w.alloc o)) := fun o => Ext.alloc (Ext.refl w) o
  have hc0 : ∀ o w', Ext (w.alloc o) w' → w'.frozen? ⟨w.heap.size, 0, none⟩ = (w.alloc o).frozen? ⟨w.heap.size, 0, none⟩ := fun o w' hx => by
    have := Below.block hx w.heap.size (by simp)
    simp only [World.frozen?, this]
  go_enter Tryz.func72, Tryz.ntmps72
  obtain ⟨w1, hw1⟩ : ∃ w1, w.alloc (.cells #[.int .i64 0, .int .i64 0] 63) = w1 := ⟨_, rfl⟩
  have hx1 : Ext w w1 := by rw [← hw1]; exact Ext.alloc (Ext.refl w) _
  have hb1 : w1.heap[w.heap.size]? = some (.cells #[.int .i64 0, .int .i64 0] 63 (0, 0)) := by rw [← hw1]; exact heap_alloc_new w _
  have HW1 := hid hw1
  clear hw1 hc0
  go_upto_region 1 with fail
  rw [HW1.out]
  clear HW1
  go_wp2
  go_loopw [5, 6] (fun s5 s6 wr => ∃ a b : Int, s5 = .int .i64 a ∧ s6 = .int .i64 b ∧ (0 < a ∧ a ≤ 1000000) ∧ (0 ≤ b ∧ b ≤ 1000000) ∧ gcdZ a b = g ∧ Ext w1 wr) (fun _ s _ => (intOf s).toNat)
  case atStart => exact ⟨n, d, rfl, rfl, hn, ⟨by omega, hd.2⟩, HG.out, Ext.refl _⟩
  case round =>
    obtain ⟨a, b, rfl, rfl, ha, hb, he, hx⟩ := hrel
    by_cases hb0 : 0 < b
    · have hs := gcdZ_step (a := a) (by omega) hb0
      have e : a.tmod b = a % b := Int.tmod_eq_emod_of_nonneg (by omega)
      have hm1 := Int.emod_nonneg a (show b ≠ 0 by omega)
      have hm2 := Int.emod_lt_of_pos a hb0
      have hbn : ¬ b = 0 := by omega
      rw [hs, e] at he
      have HE := hid he
      have WM : IntKind.i64.wrap (a.tmod b) = a % b := by rw [e]; exact IntWalk.i64_in _ ⟨by omega, by omega⟩
      clear he hs e
      go_wp2
      go_quiet (fail)
      go_wp2
      go_roundw
      case rel => exact ⟨b, a % b, rfl, by go_num, ⟨hb0, hb.2⟩, ⟨hm1, by omega⟩, HE.out, Ext.drewN hx _⟩
      case measure => simp [intOf]; omega
    · obtain rfl : b = 0 := by omega
      rw [gcdZ_end] at he
      subst he
      have hb2 := (Below.block hx w.heap.size (Array.getElem?_eq_some_iff.1 hb1).1).trans hb1
      obtain ⟨c0, c1, hfr⟩ := rat_cells hb2
      have hxw := hx1.trans hx
      have HXW := hid hxw
      have HB2 := hid hb2
      clear hx hxw hb2 hb1 hx1 hn hd ha hb
      go_wp2
      go_region
      go_wp2
      have hx9 := Ext.drew (Ext.setCell (Ext.setCell HXW.out (p := ⟨w.heap.size, 0, none⟩) (Nat.le_refl _) (.int .i64 (n.tdiv a))) (p := ⟨w.heap.size, 1, none⟩) (Nat.le_refl _) (.int .i64 (d.tdiv a)))
      have hb9 := rat_put HB2.out (.int .i64 (n.tdiv a)) (.int .i64 (d.tdiv a))
      obtain ⟨W9, hW9⟩ : ∃ W9, ((wr.setCell ⟨w.heap.size, 0, none⟩ (.int .i64 (n.tdiv a))).setCell ⟨w.heap.size, 1, none⟩ (.int .i64 (d.tdiv a))).drew = W9 := ⟨_, rfl⟩
      have hb9' : W9.heap[w.heap.size]? = some (.cells #[.int .i64 (n.tdiv a), .int .i64 (d.tdiv a)] 63 (0, 0)) := by rw [← hW9]; exact hb9
      rw [hW9] at hx9 ⊢
      obtain ⟨k0, k1, -⟩ := rat_cells hb9'
      refine bodyPost_ret (v := rval (lowR n d)) ?_ rfl ⟨rfl, hx9⟩
      rw [HV.out]
      simp [results, Tryz.results72, go_sem, rval, k0, k1]
end Go.Proofs.YtjnobdcbbboeeaaGreat

namespace Go.Proofs.YtjnobdcbbboeeaaGreat
open Go Go.RowKit Go.Shelf
set_option linter.unusedVariables false
set_option linter.unusedSimpArgs false

theorem heap_setCell_ne2 {w : World} {p : Addr} {u : Value} {k : Nat} (h : k ≠ p.block) : (w.setCell p u).heap[k]? = w.heap[k]? := Below.heap_setCell _ _ _ k h
theorem low_small {n d : Int} (hn : 0 < n ∧ n ≤ 1000000) (hd : 0 < d ∧ d ≤ 1000000) : Rsm (lowR n d) := by
  have h1 := lowR_le hn.1 hd.1
  have h2 := lowR_pos hn.1 hd.1
  exact ⟨⟨Int.le_of_lt h2.1, by omega⟩, ⟨Int.le_of_lt h2.2, by omega⟩⟩
set_option maxHeartbeats 1000000 in
theorem least_any (x : Wg) (w : World) (hm : (1 ≤ x.sl ∧ x.sl ≤ 1000) ∧ (1 ≤ x.sh ∧ x.sh ≤ 1000) ∧ (1 ≤ x.ml ∧ x.ml ≤ 1000) ∧ (1 ≤ x.mh ∧ x.mh ≤ 1000)) :
    Calls Tryz.prog 34 #[x.val] w fun e w' => e = .returned (rval x.lo) ∧ Ext w w' := by
  obtain ⟨R, hR⟩ : ∃ R, x.lo = R := ⟨_, rfl⟩
  have hR2 : lowR x.ml x.sh = R := hR
  rw [hR]
  obtain ⟨w1, hw1⟩ : ∃ w1, w.alloc (.cells #[.int .i64 x.mo, .int .i64 x.sl, .int .i64 x.sh, .int .i64 x.ml, .int .i64 x.mh] 67) = w1 := ⟨_, rfl⟩
  obtain ⟨w2, hw2⟩ : ∃ w2, w1.alloc (.cells #[.int .i64 0, .int .i64 0] 63) = w2 := ⟨_, rfl⟩
  have hx1 : Ext w w1 := by rw [← hw1]; exact Ext.alloc (Ext.refl w) _
  have hx2' : Ext w1 w2 := by rw [← hw2]; exact Ext.alloc (Ext.refl w1) _
  have hx2 := hx1.trans hx2'
  have s1 : w1.heap.size = w.heap.size + 1 := by rw [← hw1]; simp
  have b1 : w2.heap[w.heap.size]? = some (.cells #[.int .i64 x.mo, .int .i64 x.sl, .int .i64 x.sh, .int .i64 x.ml, .int .i64 x.mh] 67 (0, 0)) := (Below.block hx2' w.heap.size (by omega)).trans (by rw [← hw1]; exact heap_alloc_new w _)
  have b2 : w2.heap[w.heap.size + 1]? = some (.cells #[.int .i64 0, .int .i64 0] 63 (0, 0)) := by rw [← hw2, ← s1]; exact heap_alloc_new w1 _
  have c1 : w2.cell? ⟨w.heap.size, 1, none⟩ = some (.int .i64 x.sl) := by rw [cell_of_row w2 w.heap.size 1 _ _ _ b1]; rfl
  have c2 : w2.cell? ⟨w.heap.size, 2, none⟩ = some (.int .i64 x.sh) := by rw [cell_of_row w2 w.heap.size 2 _ _ _ b1]; rfl
  have c3 : w2.cell? ⟨w.heap.size, 3, none⟩ = some (.int .i64 x.ml) := by rw [cell_of_row w2 w.heap.size 3 _ _ _ b1]; rfl
  have c4 : w2.cell? ⟨w.heap.size, 4, none⟩ = some (.int .i64 x.mh) := by rw [cell_of_row w2 w.heap.size 4 _ _ _ b1]; rfl
  have K := lowest_any x.ml x.sh w2 (by omega) (by omega)
  rw [hR2] at K
  have K := hid K
  have HW1 := hid hw1
  have HW2 := hid hw2
  have HB2 := hid b2
  have HS1 := hid s1
  clear hw1 hw2 b1 b2 hx1 hx2' s1 hR hR2
  unfold Wg.val
  go_enter Tryz.func34, Tryz.ntmps34
  go_upto_region 1 with fail
  rw [HW1.out, HW2.out]
  try rw [HS1.out]
  clear HW1 HW2
  go_wp2_with fail
  refine K.out.mono ?_
  clear K c1 c2 c3 c4
  rintro e w3 ⟨rfl, h3⟩
  have hb3 := (Below.block h3 (w.heap.size + 1) (Array.getElem?_eq_some_iff.1 HB2.out).1).trans HB2.out
  obtain ⟨c0, c1, hf⟩ := rat_cells hb3
  have hx3 := hx2.trans h3
  have b9 := rat_put hb3 (.int .i64 R.1) (.int .i64 R.2)
  have hx9 := Ext.setCell (Ext.setCell hx3 (p := ⟨w.heap.size + 1, 0, none⟩) (Nat.le_succ _) (.int .i64 R.1)) (p := ⟨w.heap.size + 1, 1, none⟩) (Nat.le_succ _) (.int .i64 R.2)
  obtain ⟨w9, hw9⟩ : ∃ w9, (w3.setCell ⟨w.heap.size + 1, 0, none⟩ (.int .i64 R.1)).setCell ⟨w.heap.size + 1, 1, none⟩ (.int .i64 R.2) = w9 := ⟨_, rfl⟩
  rw [hw9] at b9 hx9
  obtain ⟨k0, k1, -⟩ := rat_cells b9
  have HW9 := hid hw9
  clear hw9 b9 hb3 HB2
  unfold rval
  go_wp2
  try rw [HW9.out]
  refine bodyPost_ret (v := rval R) ?_ rfl ⟨rfl, hx9⟩
  simp [results, Tryz.results34, go_sem, rval, k0, k1]
set_option maxHeartbeats 1000000 in
theorem most_any (x : Wg) (w : World) (hm : (1 ≤ x.sl ∧ x.sl ≤ 1000) ∧ (1 ≤ x.sh ∧ x.sh ≤ 1000) ∧ (1 ≤ x.ml ∧ x.ml ≤ 1000) ∧ (1 ≤ x.mh ∧ x.mh ≤ 1000)) :
    Calls Tryz.prog 35 #[x.val] w fun e w' => e = .returned (rval x.hi) ∧ Ext w w' := by
  obtain ⟨R, hR⟩ : ∃ R, x.hi = R := ⟨_, rfl⟩
  have hR2 : lowR x.mh x.sl = R := hR
  rw [hR]
  obtain ⟨w1, hw1⟩ : ∃ w1, w.alloc (.cells #[.int .i64 x.mo, .int .i64 x.sl, .int .i64 x.sh, .int .i64 x.ml, .int .i64 x.mh] 67) = w1 := ⟨_, rfl⟩
  obtain ⟨w2, hw2⟩ : ∃ w2, w1.alloc (.cells #[.int .i64 0, .int .i64 0] 63) = w2 := ⟨_, rfl⟩
  have hx1 : Ext w w1 := by rw [← hw1]; exact Ext.alloc (Ext.refl w) _
  have hx2' : Ext w1 w2 := by rw [← hw2]; exact Ext.alloc (Ext.refl w1) _
  have hx2 := hx1.trans hx2'
  have s1 : w1.heap.size = w.heap.size + 1 := by rw [← hw1]; simp
  have b1 : w2.heap[w.heap.size]? = some (.cells #[.int .i64 x.mo, .int .i64 x.sl, .int .i64 x.sh, .int .i64 x.ml, .int .i64 x.mh] 67 (0, 0)) := (Below.block hx2' w.heap.size (by omega)).trans (by rw [← hw1]; exact heap_alloc_new w _)
  have b2 : w2.heap[w.heap.size + 1]? = some (.cells #[.int .i64 0, .int .i64 0] 63 (0, 0)) := by rw [← hw2, ← s1]; exact heap_alloc_new w1 _
  have c1 : w2.cell? ⟨w.heap.size, 1, none⟩ = some (.int .i64 x.sl) := by rw [cell_of_row w2 w.heap.size 1 _ _ _ b1]; rfl
  have c2 : w2.cell? ⟨w.heap.size, 2, none⟩ = some (.int .i64 x.sh) := by rw [cell_of_row w2 w.heap.size 2 _ _ _ b1]; rfl
  have c3 : w2.cell? ⟨w.heap.size, 3, none⟩ = some (.int .i64 x.ml) := by rw [cell_of_row w2 w.heap.size 3 _ _ _ b1]; rfl
  have c4 : w2.cell? ⟨w.heap.size, 4, none⟩ = some (.int .i64 x.mh) := by rw [cell_of_row w2 w.heap.size 4 _ _ _ b1]; rfl
  have K := lowest_any x.mh x.sl w2 (by omega) (by omega)
  rw [hR2] at K
  have K := hid K
  have HW1 := hid hw1
  have HW2 := hid hw2
  have HB2 := hid b2
  have HS1 := hid s1
  clear hw1 hw2 b1 b2 hx1 hx2' s1 hR hR2
  unfold Wg.val
  go_enter Tryz.func35, Tryz.ntmps35
  go_upto_region 1 with fail
  rw [HW1.out, HW2.out]
  try rw [HS1.out]
  clear HW1 HW2
  go_wp2_with fail
  refine K.out.mono ?_
  clear K c1 c2 c3 c4
  rintro e w3 ⟨rfl, h3⟩
  have hb3 := (Below.block h3 (w.heap.size + 1) (Array.getElem?_eq_some_iff.1 HB2.out).1).trans HB2.out
  obtain ⟨c0, c1, hf⟩ := rat_cells hb3
  have hx3 := hx2.trans h3
  have b9 := rat_put hb3 (.int .i64 R.1) (.int .i64 R.2)
  have hx9 := Ext.setCell (Ext.setCell hx3 (p := ⟨w.heap.size + 1, 0, none⟩) (Nat.le_succ _) (.int .i64 R.1)) (p := ⟨w.heap.size + 1, 1, none⟩) (Nat.le_succ _) (.int .i64 R.2)
  obtain ⟨w9, hw9⟩ : ∃ w9, (w3.setCell ⟨w.heap.size + 1, 0, none⟩ (.int .i64 R.1)).setCell ⟨w.heap.size + 1, 1, none⟩ (.int .i64 R.2) = w9 := ⟨_, rfl⟩
  rw [hw9] at b9 hx9
  obtain ⟨k0, k1, -⟩ := rat_cells b9
  have HW9 := hid hw9
  clear hw9 b9 hb3 HB2
  unfold rval
  go_wp2
  try rw [HW9.out]
  refine bodyPost_ret (v := rval R) ?_ rfl ⟨rfl, hx9⟩
  simp [results, Tryz.results35, go_sem, rval, k0, k1]
theorem great_snoc (r q : Rt) : ∀ (l : List Rt), greatL r (l ++ [q]) = if abv q (greatL r l) = true then q else greatL r l := by
  intro l
  induction l generalizing r with
  | nil => rfl
  | cons x l ih => exact ih _
theorem great_small : ∀ (l : List Rt) (r : Rt), Rsm r → (∀ q ∈ l, Rsm q) → Rsm (greatL r l)
  | [], r, hr, _ => hr
  | q :: l, r, hr, hl => by
    unfold greatL
    split
    · exact great_small l q (hl q List.mem_cons_self) fun x hx => hl x (List.mem_cons_of_mem _ hx)
    · exact great_small l r hr fun x hx => hl x (List.mem_cons_of_mem _ hx)
theorem take_nxt {α : Type} {l : List α} {k : Nat} {x : α} (h : l[k]? = some x) : l.take (k + 1) = l.take k ++ [x] := by
  have hk : k < l.length := (List.getElem?_eq_some_iff.1 h).1
  rw [List.take_succ_eq_append_getElem hk, (List.getElem?_eq_some_iff.1 h).2]
set_option maxHeartbeats 2000000 in
theorem greatest_any (r : Rt) (A : Option Addr) (c : Nat) (l : List Rt) (w : World) (hr : Rsm r) (hA : Prs w A l) (hl : l.length ≤ 9223372036854775807) (hs : ∀ q ∈ l, Rsm q) :
    Calls Tryz.prog 51 #[rval r, .slice A l.length c] w fun e w' => e = .returned (rval (greatL r l)) ∧ Ext w w' := by
  have HS := hid hs
  have HR := hid hr
  have HA : Hid (∀ w', Ext w w' → Prs w' A l) := fun w' h => Rows.ext hA h
  unfold rval
  obtain ⟨w1, hw1⟩ : ∃ w1, w.alloc (.cells #[.int .i64 r.1, .int .i64 r.2] 63) = w1 := ⟨_, rfl⟩
  obtain ⟨w2, hw2⟩ : ∃ w2, w1.alloc (.cells #[.int .i64 0, .int .i64 0] 63) = w2 := ⟨_, rfl⟩
  have hx1 : Ext w w1 := by rw [← hw1]; exact Ext.alloc (Ext.refl w) _
  have hx2' : Ext w1 w2 := by rw [← hw2]; exact Ext.alloc (Ext.refl w1) _
  have hx2 := hx1.trans hx2'
  have s1 : w1.heap.size = w.heap.size + 1 := by rw [← hw1]; simp
  have b1 : w2.heap[w.heap.size]? = some (.cells #[.int .i64 r.1, .int .i64 r.2] 63 (0, 0)) := (Below.block hx2' w.heap.size (by omega)).trans (by rw [← hw1]; exact heap_alloc_new w _)
  have b2 : w2.heap[w.heap.size + 1]? = some (.cells #[.int .i64 0, .int .i64 0] 63 (0, 0)) := by rw [← hw2, ← s1]; exact heap_alloc_new w1 _
  have HW1 := hid hw1
  have HW2 := hid hw2
  have HS1 := hid s1
  have HB1 := hid b1
  have HB2 := hid b2
  clear hw1 hw2 hA hx2' s1 b1 b2 hs hr
  go_enter Tryz.func51, Tryz.ntmps51
  go_upto_region 1 with fail
  rw [HW1.out, HW2.out]
  try rw [HS1.out]
  go_wp2
  go_loopw [9] (fun i9 wr => ∃ k : Nat, k ≤ l.length ∧ i9 = .int .i64 (k : Int) ∧ Ext w wr ∧ w.heap.size + 2 ≤ wr.heap.size ∧ wr.heap[w.heap.size]? = some (.cells #[.int .i64 (greatL r (l.take k)).1, .int .i64 (greatL r (l.take k)).2] 63 (0, 0)) ∧ wr.heap[w.heap.size + 1]? = some (.cells #[.int .i64 0, .int .i64 0] 63 (0, 0))) (fun i _ => l.length - (intOf i).toNat)
  case atStart => exact ⟨0, Nat.zero_le _, rfl, hx2, by have := (Array.getElem?_eq_some_iff.1 HB2.out).1; omega, HB1.out, HB2.out⟩
  case round =>
    obtain ⟨k, hk, rfl, hx, hsz, hb1, hb2⟩ := hrel
    obtain ⟨G, hG⟩ : ∃ G, greatL r (l.take k) = G := ⟨_, rfl⟩
    have hGs : Rsm G := by rw [← hG]; exact great_small _ _ HR.out fun q hq => HS.out q (List.mem_of_mem_take hq)
    rw [hG] at hb1
    by_cases hlt : k < l.length
    · have hltI : (k : Int) < (l.length : Int) := by omega
      have hk1 : k + 1 ≤ l.length := hlt
      obtain ⟨x, hq⟩ := get_of_lt l k hlt
      have hqs := HS.out x (mem_of_get hq)
      obtain ⟨b, off, e1, g0, g1⟩ := Prs.at_ (HA.out wr hx) hq
      have hnx := great_snoc r x (l.take k)
      rw [← take_nxt hq, hG] at hnx
      obtain ⟨w3, hw3⟩ : ∃ w3, wr.alloc (.cells #[.int .i64 x.1, .int .i64 x.2] 63) = w3 := ⟨_, rfl⟩
      have hx3 : Ext wr w3 := by rw [← hw3]; exact Ext.alloc (Ext.refl _) _
      have b3 : w3.heap[wr.heap.size]? = some (.cells #[.int .i64 x.1, .int .i64 x.2] 63 (0, 0)) := by rw [← hw3]; exact heap_alloc_new wr _
      have b13 := (Below.block hx3 w.heap.size (by omega)).trans hb1
      have b23 := (Below.block hx3 (w.heap.size + 1) (by omega)).trans hb2
      have K15 := hid (above_any x G w3 hqs hGs)
      unfold rval at K15
      have HW3 := hid hw3
      have HNX := hid hnx
      subst e1
      obtain ⟨c0, c1, -⟩ := rat_cells b3
      obtain ⟨d0, d1, -⟩ := rat_cells b13
      clear hq hG hnx hw3 hb1 hb2
      go_upto_region 4 with fail
      rw [HW3.out]
      clear g0 g1 HW3
      go_wp2_with fail
      refine K15.out.mono ?_
      clear K15
      rintro e w4 ⟨rfl, h4⟩
      have b34 := (Below.block h4 wr.heap.size (Array.getElem?_eq_some_iff.1 b3).1).trans b3
      have b14 := (Below.block h4 w.heap.size (by have := hx3.size; omega)).trans b13
      have b24 := (Below.block h4 (w.heap.size + 1) (by have := hx3.size; omega)).trans b23
      have hx4 := (hx.trans hx3).trans h4
      have sz4 := hx4.size
      have sz5 : w.heap.size + 2 ≤ w4.heap.size := by have := hx3.size; have := h4.size; omega
      clear c0 c1 d0 d1 b3 b13 b23
      obtain ⟨c0, c1, -⟩ := rat_cells b34
      cases hB : abv x G
      case false =>
        have HN : Hid (greatL r (l.take (k + 1)) = G) := by unfold Hid; rw [HNX.out, hB]; rfl
        have HB14 := hid b14
        have HB24 := hid b24
        clear b14 b24 hB HNX
        go_wp2
        go_roundw
        case rel => exact ⟨k + 1, hk1, by go_num, hx4, sz5, by rw [HN.out]; exact HB14.out, HB24.out⟩
        case measure => simp [intOf]; omega
      case true =>
        have HN : Hid (greatL r (l.take (k + 1)) = x) := by unfold Hid; rw [HNX.out, hB]; rfl
        have b15 := rat_put b14 (.int .i64 x.1) (.int .i64 x.2)
        have hx5 := Ext.setCell (Ext.setCell hx4 (p := ⟨w.heap.size, 0, none⟩) (Nat.le_refl _) (.int .i64 x.1)) (p := ⟨w.heap.size, 1, none⟩) (Nat.le_refl _) (.int .i64 x.2)
        have b25 : ((w4.setCell ⟨w.heap.size, 0, none⟩ (.int .i64 x.1)).setCell ⟨w.heap.size, 1, none⟩ (.int .i64 x.2)).heap[w.heap.size + 1]? = some (.cells #[.int .i64 0, .int .i64 0] 63 (0, 0)) := by
          rw [heap_setCell_ne2 (by show w.heap.size + 1 ≠ w.heap.size; omega), heap_setCell_ne2 (by show w.heap.size + 1 ≠ w.heap.size; omega)]; exact b24
        have s5 : ((w4.setCell ⟨w.heap.size, 0, none⟩ (.int .i64 x.1)).setCell ⟨w.heap.size, 1, none⟩ (.int .i64 x.2)).heap.size = w4.heap.size := by simp [World.setCell]
        obtain ⟨w5, hw5⟩ : ∃ w5, (w4.setCell ⟨w.heap.size, 0, none⟩ (.int .i64 x.1)).setCell ⟨w.heap.size, 1, none⟩ (.int .i64 x.2) = w5 := ⟨_, rfl⟩
        rw [hw5] at b15 hx5 b25 s5
        obtain ⟨d0, d1, df⟩ := rat_cells b14
        have HW5 := hid hw5
        have HB15 := hid b15
        have HB25 := hid b25
        have sz6 : w.heap.size + 2 ≤ w5.heap.size := by omega
        clear hB HNX hw5 b15 b25 b24 s5
        go_upto_region 6 with fail
        try rw [HW5.out]
        clear HW5 c0 c1 d0 d1 df
        go_wp2
        go_roundw
        case rel => exact ⟨k + 1, hk1, by go_num, hx5, sz6, by rw [HN.out]; exact HB15.out, HB25.out⟩
        case measure => simp [intOf]; omega
    · obtain rfl : k = l.length := by omega
      rw [List.take_length] at hG
      obtain ⟨c0, c1, -⟩ := rat_cells hb1
      obtain ⟨d0, d1, df⟩ := rat_cells hb2
      have b9 := rat_put hb2 (.int .i64 G.1) (.int .i64 G.2)
      have hx9 := Ext.setCell (Ext.setCell hx (p := ⟨w.heap.size + 1, 0, none⟩) (Nat.le_succ _) (.int .i64 G.1)) (p := ⟨w.heap.size + 1, 1, none⟩) (Nat.le_succ _) (.int .i64 G.2)
      obtain ⟨w9, hw9⟩ : ∃ w9, (wr.setCell ⟨w.heap.size + 1, 0, none⟩ (.int .i64 G.1)).setCell ⟨w.heap.size + 1, 1, none⟩ (.int .i64 G.2) = w9 := ⟨_, rfl⟩
      rw [hw9] at b9 hx9
      obtain ⟨k0, k1, -⟩ := rat_cells b9
      have HW9 := hid hw9
      have HG := hid hG
      clear hw9 b9 hG hb1 hb2
      go_wp2
      try rw [HW9.out]
      refine bodyPost_ret (v := rval G) ?_ rfl ⟨by rw [HG.out]; rfl, hx9⟩
      simp [results, Tryz.results51, go_sem, rval, k0, k1]
end Go.Proofs.YtjnobdcbbboeeaaGreat

namespace Go.Proofs.YtjnobdcbbboeeaaGreat
open Go Go.RowKit Go.Shelf
set_option linter.unusedVariables false
set_option linter.unusedSimpArgs false

def measR (s : Int × Int) : Bool := inB s.1 1 1000 && inB s.2 1 1000
theorem check1_fn (w : World) : FnP Tryz.prog (.func (.func 37) #[] #[]) w RtR anyx measR := by
  refine ⟨_, _, _, rfl, enters_of Tryz.func37 (by kernel_rfl) rfl, fun x v W hs hW hR => ?_⟩
  obtain rfl : v = pval x := hR
  clear hs hW
  unfold pval
  show Calls _ _ #[_] _ _
  cases h1 : inB x.1 1 1000
  · have HM : Hid (measR x = false) := by unfold Hid measR; rw [h1]; rfl
    have H1 := hid h1
    clear h1
    go_enter Tryz.func37, Tryz.ntmps37
    go_wp2_with fail
    refine (in_any _ _ _ _).mono ?_
    rintro e w1 ⟨rfl, rfl⟩
    rw [H1.out]
    go_wp2
    go_ret
    exact ⟨ret_of (bool_of HM.out.symm), Ext.alloc (Ext.refl W) _⟩
  · have HM : Hid (measR x = inB x.2 1 1000) := by unfold Hid measR; rw [h1]; rfl
    have H1 := hid h1
    clear h1
    go_enter Tryz.func37, Tryz.ntmps37
    go_wp2_with fail
    refine (in_any _ _ _ _).mono ?_
    rintro e w1 ⟨rfl, rfl⟩
    rw [H1.out]
    go_wp2_with fail
    refine (in_any _ _ _ _).mono ?_
    rintro e w1 ⟨rfl, rfl⟩
    go_wp2
    go_ret
    exact ⟨ret_of (bool_of HM.out.symm), Ext.alloc (Ext.refl W) _⟩
theorem check2_fn (v0 : Value) (h : Hs) (w : World) (P : Nat) (hr : HsR w v0 h) (hb : 1 ≤ h.mo ∧ h.mo ≤ 12) (hP : w.cell? ⟨P, 0, none⟩ = some (.func (.func 36) #[v0] #[])) :
    FnP Tryz.prog (.func (.func 40) #[] #[.pointer (some ⟨P, 0, none⟩)]) w WgR anyx (fun x => moOK h x.mo) := by
  refine ⟨_, _, _, rfl, enters_of Tryz.func40 (by kernel_rfl) rfl, fun x v W hs hW hR => ?_⟩
  obtain rfl : v = x.val := hR
  obtain ⟨W1, hW1⟩ : ∃ W1, W.alloc (.cells #[.int .i64 x.mo, .int .i64 x.sl, .int .i64 x.sh, .int .i64 x.ml, .int .i64 x.mh] 67) = W1 := ⟨_, rfl⟩
  have hx1 : Ext W W1 := by rw [← hW1]; exact Ext.alloc (Ext.refl W) _
  have b1 : W1.heap[W.heap.size]? = some (.cells #[.int .i64 x.mo, .int .i64 x.sl, .int .i64 x.sh, .int .i64 x.ml, .int .i64 x.mh] 67 (0, 0)) := by rw [← hW1]; exact heap_alloc_new W _
  have c0 : W1.cell? ⟨W.heap.size, 0, none⟩ = some (.int .i64 x.mo) := by rw [cell_of_row W1 W.heap.size 0 _ _ _ b1]; rfl
  have cP := hx1.cell (hW.cell hP)
  have K := hid (month_any v0 h x.mo W1 ((hr.kc hW).ext hx1) hb)
  have HW1 := hid hW1
  clear hs hW hP hW1 b1 hr
  unfold Wg.val
  show Calls _ _ #[_, _] _ _
  go_enter Tryz.func40, Tryz.ntmps40
  go_upto_region 1 with fail
  rw [HW1.out]
  go_wp2_with fail
  refine K.out.mono ?_
  rintro e w1 ⟨rfl, h1⟩
  go_wp2
  go_ret
  exact ⟨rfl, hx1.trans h1⟩
theorem check3_fn (w : World) (Q : Nat) (hQ : w.cell? ⟨Q, 0, none⟩ = some (.func (.func 37) #[] #[])) :
    FnP Tryz.prog (.func (.func 41) #[] #[.pointer (some ⟨Q, 0, none⟩)]) w WgR anyx measW := by
  refine ⟨_, _, _, rfl, enters_of Tryz.func41 (by kernel_rfl) rfl, fun x v W hs hW hR => ?_⟩
  obtain rfl : v = x.val := hR
  obtain ⟨W1, hW1⟩ : ∃ W1, W.alloc (.cells #[.int .i64 x.mo, .int .i64 x.sl, .int .i64 x.sh, .int .i64 x.ml, .int .i64 x.mh] 67) = W1 := ⟨_, rfl⟩
  have hx1 : Ext W W1 := by rw [← hW1]; exact Ext.alloc (Ext.refl W) _
  have b1 : W1.heap[W.heap.size]? = some (.cells #[.int .i64 x.mo, .int .i64 x.sl, .int .i64 x.sh, .int .i64 x.ml, .int .i64 x.mh] 67 (0, 0)) := by rw [← hW1]; exact heap_alloc_new W _
  have FX : Hid (∀ w', Ext W1 w' → (w'.cell? ⟨W.heap.size, 1, none⟩ = some (.int .i64 x.sl) ∧ w'.cell? ⟨W.heap.size, 2, none⟩ = some (.int .i64 x.sh) ∧ w'.cell? ⟨W.heap.size, 3, none⟩ = some (.int .i64 x.ml) ∧ w'.cell? ⟨W.heap.size, 4, none⟩ = some (.int .i64 x.mh)) ∧ w'.cell? ⟨Q, 0, none⟩ = some (.func (.func 37) #[] #[])) := fun w' hx =>
    ⟨⟨hx.cell (by rw [cell_of_row W1 W.heap.size 1 _ _ _ b1]; rfl), hx.cell (by rw [cell_of_row W1 W.heap.size 2 _ _ _ b1]; rfl), hx.cell (by rw [cell_of_row W1 W.heap.size 3 _ _ _ b1]; rfl), hx.cell (by rw [cell_of_row W1 W.heap.size 4 _ _ _ b1]; rfl)⟩, hx.cell (hx1.cell (hW.cell hQ))⟩
  have KM : Hid (∀ (a b : Int) w', Calls Tryz.prog 37 #[.agg #[.int .i64 a, .int .i64 b]] w' fun e w2 => e = .returned (.bool (measR (a, b))) ∧ Ext w' w2) := fun a b w' => by
    obtain ⟨g, fst, lb, e1, -, hc⟩ := check1_fn w'
    cases e1
    exact hc (a, b) (pval (a, b)) w' trivial (Kc.refl _) rfl
  have HM : Hid (measW x = (measR (x.sl, x.sh) && measR (x.ml, x.mh))) := rfl
  have HW1 := hid hW1
  clear hs hW hQ hW1 b1
  unfold Wg.val
  show Calls _ _ #[_, _] _ _
  cases h1 : measR (x.sl, x.sh)
  · have HM2 : Hid (measW x = false) := by unfold Hid; rw [HM.out, h1]; rfl
    have H1 := hid h1
    clear h1
    go_enter Tryz.func41, Tryz.ntmps41
    go_upto_region 1 with fail
    rw [HW1.out]
    obtain ⟨⟨c1, c2, c3, c4⟩, c5⟩ := FX.out W1 (Ext.refl _)
    go_wp2_with fail
    refine (KM.out x.sl x.sh W1).mono ?_
    rintro e w1 ⟨rfl, hy⟩
    rw [H1.out]
    go_wp2
    go_ret
    exact ⟨ret_of (bool_of HM2.out.symm), hx1.trans hy⟩
  · have HM2 : Hid (measW x = measR (x.ml, x.mh)) := by unfold Hid; rw [HM.out, h1]; rfl
    have H1 := hid h1
    clear h1
    go_enter Tryz.func41, Tryz.ntmps41
    go_upto_region 1 with fail
    rw [HW1.out]
    obtain ⟨⟨c1, c2, c3, c4⟩, c5⟩ := FX.out W1 (Ext.refl _)
    go_wp2_with fail
    refine (KM.out x.sl x.sh W1).mono ?_
    clear c1 c2 c3 c4 c5
    rintro e w1 ⟨rfl, hy⟩
    rw [H1.out]
    obtain ⟨⟨c1, c2, c3, c4⟩, c5⟩ := FX.out w1 hy
    go_wp2_with fail
    refine (KM.out x.ml x.mh w1).mono ?_
    rintro e w2 ⟨rfl, hy2⟩
    go_wp2
    go_ret
    exact ⟨ret_of (bool_of HM2.out.symm), hx1.trans (hy.trans hy2)⟩
theorem check4_fn (w : World) : FnP Tryz.prog (.func (.func 42) #[] #[]) w WgR anyx ordW := by
  refine ⟨_, _, _, rfl, enters_of Tryz.func42 (by kernel_rfl) rfl, fun x v W hs hW hR => ?_⟩
  obtain rfl : v = x.val := hR
  clear hs hW
  unfold Wg.val
  show Calls _ _ #[_] _ _
  by_cases h1 : x.sl ≤ x.sh
  · have HM : Hid (ordW x = decide (x.ml ≤ x.mh)) := by unfold Hid ordW; simp [h1]
    go_enter Tryz.func42, Tryz.ntmps42
    go_wp2
    go_ret
    exact ⟨ret_of (bool_of HM.out.symm), Ext.alloc (Ext.refl W) _⟩
  · have HM : Hid (ordW x = false) := by unfold Hid ordW; simp [h1]
    go_enter Tryz.func42, Tryz.ntmps42
    go_wp2
    go_ret
    exact ⟨ret_of (bool_of HM.out.symm), Ext.alloc (Ext.refl W) _⟩
/-- What the walk of Check reads again and again. -/
structure ChkH (w : World) (B P Q : Nat) (A : Option Addr) (c : Nat) (h : Hs) : Prop where
  c0 : w.cell? ⟨B, 0, none⟩ = some (.int .i64 h.mo)
  c1 : w.cell? ⟨B, 1, none⟩ = some (.int .i64 h.pk)
  c2 : w.cell? ⟨B, 2, none⟩ = some (.slice A h.ws.length c)
  mon : w.cell? ⟨P, 0, none⟩ = some (.func (.func 36) #[hval h A c] #[])
  mea : w.cell? ⟨Q, 0, none⟩ = some (.func (.func 37) #[] #[])
  rows : Wgs w A h.ws
theorem ChkH.ext {w w' : World} {B P Q : Nat} {A : Option Addr} {c : Nat} {h : Hs} (k : ChkH w B P Q A c h) (hx : Ext w w') : ChkH w' B P Q A c h := ⟨hx.cell k.c0, hx.cell k.c1, hx.cell k.c2, hx.cell k.mon, hx.cell k.mea, Rows.ext k.rows hx⟩
set_option maxRecDepth 100000 in
set_option maxHeartbeats 4000000 in
theorem check_any (v : Value) (h : Hs) (w : World) (hr : HsR w v h) (hs : h.sized) :
    Calls Tryz.prog 9 #[v] w fun e w' => e = .returned (.int .i64 (checkH h)) ∧ Ext w w' := by
  obtain ⟨A, c, rfl, hrw, hcap⟩ := hr
  have HRW := hid hrw
  have HSZ : Hid (h.ws.length ≤ 9223372036854775807) := hs
  obtain ⟨T, hT⟩ : ∃ T, checkH h = T := ⟨_, rfl⟩
  have HT := hid hT
  rw [hT]
  clear hT hs hrw
  have hval0 : hval h A c = .agg #[.int .i64 h.mo, .int .i64 h.pk, .slice A h.ws.length c] := rfl
  obtain ⟨W0, hW0⟩ : ∃ W0, ((w.alloc (.cells #[.int .i64 h.mo, .int .i64 h.pk, .slice A h.ws.length c] 25)).alloc (.cells #[.func (.func 36) #[.agg #[.int .i64 h.mo, .int .i64 h.pk, .slice A h.ws.length c]] #[]] 69)).alloc (.cells #[.func (.func 37) #[] #[]] 85) = W0 := ⟨_, rfl⟩
  have hx0 : Ext w W0 := by rw [← hW0]; exact Ext.alloc (Ext.alloc (Ext.alloc (Ext.refl w) _) _) _
  have HC : Hid (ChkH W0 w.heap.size (w.heap.size + 1) (w.heap.size + 1 + 1) A c h) := by
    unfold Hid
    rw [← hW0]
    refine ⟨?_, ?_, ?_, ?_, ?_, Rows.ext HRW.out (Ext.alloc (Ext.alloc (Ext.alloc (Ext.refl w) _) _) _)⟩
    all_goals first | (rw [hval0]; simp [go_sem]) | simp [go_sem]
  have HW0 := hid hW0
  have HV0 := hid hval0
  clear hW0 hval0
  unfold hval
  go_enter Tryz.func9, Tryz.ntmps9
  go_upto_region 3 with fail
  rw [HW0.out]
  clear HW0
  have FX : Hid (∀ w', Ext W0 w' → w'.cell? ⟨w.heap.size, 0, none⟩ = some (.int .i64 h.mo) ∧ w'.cell? ⟨w.heap.size, 1, none⟩ = some (.int .i64 h.pk) ∧ w'.cell? ⟨w.heap.size, 2, none⟩ = some (.slice A h.ws.length c) ∧ w'.cell? ⟨w.heap.size + 1, 0, none⟩ = some (.func (.func 36) #[.agg #[.int .i64 h.mo, .int .i64 h.pk, .slice A h.ws.length c]] #[])) := fun w' hx => by
    have k := HC.out.ext hx
    exact ⟨k.c0, k.c1, k.c2, k.mon⟩
  obtain ⟨c0, c1, c2, -⟩ := FX.out W0 (Ext.refl _)
  go_wp2_with fail
  refine (in_any _ _ _ _).mono ?_
  rintro e w1 ⟨rfl, rfl⟩
  have HCH : Hid (checkH h = T) := HT.out
  cases h1 : inB h.mo 1 12
  case false =>
    have HE : Hid (T = 2) := by unfold Hid; rw [← HT.out]; unfold checkH; rw [h1]; rfl
    clear h1
    go_wp2
    go_ret
    exact ⟨ret_of (int_of HE.out.symm), hx0⟩
  have hmo := inB_iff.1 h1
  by_cases h2 : 14 < h.ws.length
  · have HE : Hid (T = 2) := by unfold Hid; rw [← HT.out]; unfold checkH; rw [h1]; simp [h2]
    have h2I : (14 : Int) < (h.ws.length : Int) := by omega
    clear h1
    go_wp2
    go_ret
    exact ⟨ret_of (int_of HE.out.symm), hx0⟩
  have h2I : ¬ (14 : Int) < (h.ws.length : Int) := by omega
  have HT2 : Hid (T = if (!moOK h h.pk || !h.ws.all fun w => moOK h w.mo) = true then 1 else if (!h.ws.all measW) = true then 3 else if (!h.ws.all ordW) = true then 4 else 0) := by
    unfold Hid
    rw [← HT.out]
    unfold checkH
    rw [if_neg]
    rw [h1]; simp [h2]
  have KP := hid (month_any (hval h A c) h h.pk W0 ⟨A, c, rfl, HC.out.rows, hcap⟩ hmo)
  have KM : Hid (∀ w', Ext W0 w' → Calls Tryz.prog 39 #[.slice A h.ws.length c, .func (.func 40) #[] #[.pointer (some ⟨w.heap.size + 1, 0, none⟩)]] w' fun e w2 => e = .returned (.bool (h.ws.all fun x => moOK h x.mo)) ∧ Ext w' w2) := fun w' hx =>
    every_wg A c h.ws _ anyx (fun x => moOK h x.mo) w' (HC.out.ext hx).rows HSZ.out (anyx_all _) (check2_fn (hval h A c) h w' (w.heap.size + 1) ⟨A, c, rfl, (HC.out.ext hx).rows, hcap⟩ hmo (HC.out.ext hx).mon)
  have KE : Hid (∀ w', Ext W0 w' → Calls Tryz.prog 39 #[.slice A h.ws.length c, .func (.func 41) #[] #[.pointer (some ⟨w.heap.size + 1 + 1, 0, none⟩)]] w' fun e w2 => e = .returned (.bool (h.ws.all measW)) ∧ Ext w' w2) := fun w' hx =>
    every_wg A c h.ws _ anyx measW w' (HC.out.ext hx).rows HSZ.out (anyx_all _) (check3_fn w' (w.heap.size + 1 + 1) (HC.out.ext hx).mea)
  have KO : Hid (∀ w', Ext W0 w' → Calls Tryz.prog 39 #[.slice A h.ws.length c, .func (.func 42) #[] #[]] w' fun e w2 => e = .returned (.bool (h.ws.all ordW)) ∧ Ext w' w2) := fun w' hx =>
    every_wg A c h.ws _ anyx ordW w' (HC.out.ext hx).rows HSZ.out (anyx_all _) (check4_fn w')
  rw [HV0.out] at KP
  obtain ⟨B1, hB1⟩ : ∃ b, moOK h h.pk = b := ⟨_, rfl⟩
  obtain ⟨B2, hB2⟩ : ∃ b, (h.ws.all fun x => moOK h x.mo) = b := ⟨_, rfl⟩
  obtain ⟨B3, hB3⟩ : ∃ b, h.ws.all measW = b := ⟨_, rfl⟩
  obtain ⟨B4, hB4⟩ : ∃ b, h.ws.all ordW = b := ⟨_, rfl⟩
  rw [hB1] at KP HT2
  rw [hB2] at KM HT2
  rw [hB3] at KE HT2
  rw [hB4] at KO HT2
  have KP := hid KP
  have hx00 := hx0
  clear hB1 hB2 hB3 hB4 h1 HCH HC HT HRW
  obtain ⟨-, -, -, c3⟩ := FX.out W0 (Ext.refl _)
  go_wp2_with fail
  refine KP.out.mono ?_
  clear KP c0 c1 c2 c3
  rintro e w1 ⟨rfl, hy1⟩
  cases B1
  case false =>
    have HE : Hid (T = 1) := HT2.out
    go_wp2
    go_ret
    exact ⟨ret_of (int_of HE.out.symm), hx0.trans hy1⟩
  obtain ⟨c0, c1, c2, c3⟩ := FX.out w1 hy1
  go_wp2_with fail
  refine (KM.out w1 hy1).mono ?_
  clear KM c0 c1 c2 c3
  rintro e w2 ⟨rfl, hy2'⟩
  have hy2 := hy1.trans hy2'
  cases B2
  case false =>
    have HE : Hid (T = 1) := HT2.out
    go_wp2
    go_ret
    exact ⟨ret_of (int_of HE.out.symm), hx0.trans hy2⟩
  obtain ⟨c0, c1, c2, c3⟩ := FX.out w2 hy2
  go_wp2_with fail
  refine (KE.out w2 hy2).mono ?_
  clear KE c0 c1 c2 c3
  rintro e w3 ⟨rfl, hy3'⟩
  have hy3 := hy2.trans hy3'
  cases B3
  case false =>
    have HE : Hid (T = 3) := HT2.out
    go_wp2
    go_ret
    exact ⟨ret_of (int_of HE.out.symm), hx0.trans hy3⟩
  obtain ⟨c0, c1, c2, c3⟩ := FX.out w3 hy3
  go_wp2_with fail
  refine (KO.out w3 hy3).mono ?_
  clear KO c0 c1 c2 c3
  rintro e w4 ⟨rfl, hy4'⟩
  have hy4 := hx0.trans (hy3.trans hy4')
  cases B4
  case false =>
    have HE : Hid (T = 4) := HT2.out
    go_wp2
    go_ret
    exact ⟨ret_of (int_of HE.out.symm), hy4⟩
  have HE : Hid (T = 0) := HT2.out
  go_wp2
  go_ret
  exact ⟨ret_of (int_of HE.out.symm), hy4⟩
end Go.Proofs.YtjnobdcbbboeeaaGreat
