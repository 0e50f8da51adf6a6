/- The library's IndexFunc and ContainsFunc, and the program's every, over the three kinds of elements, whatever the function value (it may lay new blocks). Printed by gen_slices.py. -/
import Derived.Test.YtgnjhaomlbkgcaaProg
import Derived.Test.YtgnjhaomlbkgcaaWBase
namespace Go.Proofs.Ytgnjhaomlbkgcaa
open Go Go.RowKit
set_option linter.unusedVariables false
set_option linter.unusedSimpArgs false

set_option maxHeartbeats 1000000 in
theorem indexFunc_int (A : Option Addr) (c : Nat) (l : List Int) (fv : Value) (S : Int → Prop) (p : Int → Bool) (w : World) (hA : Ints w A l) (hl : l.length ≤ 9223372036854775807)
    (hS : ∀ x, x ∈ l → S x) (hp : FnP Try.prog fv w IntR S p) :
    Calls Try.prog 133 #[.slice A l.length c, fv] w fun e w' => e = .returned (.int .i64 (idxF p l 0)) ∧ Ext w w' := by
  obtain ⟨g, fst, lb, rfl, eg, hcall⟩ := hp
  have HC := hid hcall
  have HS := hid hS
  clear hcall hS
  have HF : Hid (idxF p l 0 = idxF p (l.drop 0) 0) := rfl
  generalize hF : idxF p l 0 = F at HF ⊢
  clear hF
  go_enter Try.func133, Try.ntmps133
  go_wp2
  go_loopg [5, 8] l.length (fun gg _ s8 wr => ∃ kk : Nat, kk ≤ l.length ∧ l.length - kk ≤ gg ∧ s8 = .int .i64 kk ∧ Ext w wr ∧ Hid (F = idxF p (l.drop kk) kk))
  case atStart => exact ⟨0, Nat.zero_le _, by omega, rfl, Ext.refl w, HF⟩
  case round =>
    obtain ⟨kk, h1, h2, rfl, hx0, HF⟩ := hrel
    by_cases hlt : kk < l.length
    · have hlt' : (kk : Int) < (l.length : Int) := by omega
      obtain ⟨x, hx⟩ := get_of_lt l kk hlt
      have hA := hA.ext hx0
      obtain ⟨b, off, rfl, c0⟩ := hA.at_ hx
      have HX := hid hx
      clear hx
      go_wp2_with fail
      refine (HC.out x _ wr (HS.out x (mem_of_get HX.out)) hx0.kc rfl).mono ?_
      have HD := idxF_drop p l kk x HX.out
      cases hq : p x
      · rw [hq] at HD
        have HD := hid HD
        rintro e w1 ⟨rfl, hb1⟩
        go_wp2
        go_roundg (l.length - (kk + 1))
        case measure => omega
        case rel => exact ⟨kk + 1, by omega, by omega, by go_num, hx0.trans hb1, HF.out.trans (by rw [HD.out]; rfl)⟩
      · rw [hq] at HD
        have HD := hid HD
        rintro e w1 ⟨rfl, hb1⟩
        go_wp2
        go_ret
        exact ⟨ret_of (int_of (by rw [HF.out, HD.out]; rfl)), hx0.trans hb1⟩
    · have hlt' : ¬ (kk : Int) < (l.length : Int) := by omega
      go_wp2
      go_ret
      exact ⟨ret_of (int_of (by rw [HF.out, idxF_end p l kk (by omega)])), hx0⟩

set_option maxHeartbeats 400000 in
theorem containsFunc_int (A : Option Addr) (c : Nat) (l : List Int) (fv : Value) (S : Int → Prop) (p : Int → Bool) (w : World) (hA : Ints w A l) (hl : l.length ≤ 9223372036854775807)
    (hS : ∀ x, x ∈ l → S x) (hp : FnP Try.prog fv w IntR S p) :
    Calls Try.prog 76 #[.slice A l.length c, fv] w fun e w' => e = .returned (.bool (l.any p)) ∧ Ext w w' := by
  have H := hid (idxF_nonneg p l 0)
  have HS := hid hS
  clear hS
  go_enter Try.func76, Try.ntmps76
  go_wp2_with fail
  refine (indexFunc_int A c l fv S p _ hA hl HS.out hp).mono ?_
  rintro e w1 ⟨rfl, hb1⟩
  go_wp2
  go_ret
  exact ⟨ret_of (bool_of (by rw [← H.out])), hb1⟩

set_option maxHeartbeats 400000 in
theorem every_int (A : Option Addr) (c : Nat) (l : List Int) (fv : Value) (S : Int → Prop) (p : Int → Bool) (w : World) (hA : Ints w A l) (hl : l.length ≤ 9223372036854775807)
    (hS : ∀ x, x ∈ l → S x) (hp : FnP Try.prog fv w IntR S p) :
    Calls Try.prog 97 #[.slice A l.length c, fv] w fun e w' => e = .returned (.bool (l.all p)) ∧ Ext w w' := by
  have H := hid (all_any p l)
  have hfv : ∃ g fst lb, fv = .func (.func g) fst lb := by obtain ⟨g, fst, lb, h, _⟩ := hp; exact ⟨g, fst, lb, h⟩
  have HP := hid hp
  have HSS := hid hS
  clear hp hS
  have hq : FnP Try.prog (.func (.func 136) #[] #[.pointer (some ⟨w.heap.size, 0, none⟩)]) (w.alloc (.cells #[fv] 123)) IntR S (fun x => !p x) := by
    refine ⟨_, _, _, rfl, enters_of Try.func136 (by kernel_rfl) rfl, fun x v W hs hW hR => ?_⟩
    have HS := hid hs
    clear hs
    have hc : W.cell? ⟨w.heap.size, 0, none⟩ = some fv := hW.cell (by simp [go_sem])
    have hc2 : ∀ o, (W.alloc o).cell? ⟨w.heap.size, 0, none⟩ = some fv := fun o => (Ext.alloc (Ext.refl W) o).cell hc
    have hw : Kc w W := (Ext.alloc (Ext.refl w) _).kc.trans hW
    obtain ⟨g, fst, lb, rfl, eg, hcall⟩ := HP.out
    have HC := hid hcall
    clear hcall HP
    have HR := hid hR
    clear hR
    show Calls _ _ #[v, _] _ _
    go_enter Try.func136, Try.ntmps136
    go_wp2_with fail
    refine (HC.out x v W HS.out hw HR.out).mono ?_
    rintro e w1 ⟨rfl, hb1⟩
    go_wp2
    go_ret
    exact ⟨rfl, hb1⟩
  obtain ⟨g0, fst0, lb0, hfv⟩ := hfv
  have HQ := hid hq
  clear hq HP
  subst hfv
  go_enter Try.func97, Try.ntmps97
  go_wp2_with fail
  refine (containsFunc_int A c l _ S _ _ (hA.ext (Ext.alloc (Ext.refl w) _)) hl HSS.out HQ.out).mono ?_
  rintro e w1 ⟨rfl, hb1⟩
  go_wp2
  go_ret
  exact ⟨ret_of (bool_of H.out.symm), (Ext.alloc (Ext.refl w) _).trans hb1⟩

set_option maxHeartbeats 1000000 in
theorem indexFunc_bound (A : Option Addr) (c : Nat) (l : List Bd) (fv : Value) (S : Bd → Prop) (p : Bd → Bool) (w : World) (hA : Bounds w A l) (hl : l.length ≤ 9223372036854775807)
    (hS : ∀ x, x ∈ l → S x) (hp : FnP Try.prog fv w BdR S p) :
    Calls Try.prog 135 #[.slice A l.length c, fv] w fun e w' => e = .returned (.int .i64 (idxF p l 0)) ∧ Ext w w' := by
  obtain ⟨g, fst, lb, rfl, eg, hcall⟩ := hp
  have HC := hid hcall
  have HS := hid hS
  clear hcall hS
  have HF : Hid (idxF p l 0 = idxF p (l.drop 0) 0) := rfl
  generalize hF : idxF p l 0 = F at HF ⊢
  clear hF
  go_enter Try.func135, Try.ntmps135
  go_wp2
  go_loopg [5, 8] l.length (fun gg _ s8 wr => ∃ kk : Nat, kk ≤ l.length ∧ l.length - kk ≤ gg ∧ s8 = .int .i64 kk ∧ Ext w wr ∧ Hid (F = idxF p (l.drop kk) kk))
  case atStart => exact ⟨0, Nat.zero_le _, by omega, rfl, Ext.refl w, HF⟩
  case round =>
    obtain ⟨kk, h1, h2, rfl, hx0, HF⟩ := hrel
    by_cases hlt : kk < l.length
    · have hlt' : (kk : Int) < (l.length : Int) := by omega
      obtain ⟨x, hx⟩ := get_of_lt l kk hlt
      have hA := hA.ext hx0
      obtain ⟨b, off, rfl, c0, c1, c2⟩ := hA.at_ hx
      have HX := hid hx
      clear hx
      go_wp2_with fail
      refine (HC.out x _ wr (HS.out x (mem_of_get HX.out)) hx0.kc rfl).mono ?_
      have HD := idxF_drop p l kk x HX.out
      cases hq : p x
      · rw [hq] at HD
        have HD := hid HD
        rintro e w1 ⟨rfl, hb1⟩
        go_wp2
        go_roundg (l.length - (kk + 1))
        case measure => omega
        case rel => exact ⟨kk + 1, by omega, by omega, by go_num, hx0.trans hb1, HF.out.trans (by rw [HD.out]; rfl)⟩
      · rw [hq] at HD
        have HD := hid HD
        rintro e w1 ⟨rfl, hb1⟩
        go_wp2
        go_ret
        exact ⟨ret_of (int_of (by rw [HF.out, HD.out]; rfl)), hx0.trans hb1⟩
    · have hlt' : ¬ (kk : Int) < (l.length : Int) := by omega
      go_wp2
      go_ret
      exact ⟨ret_of (int_of (by rw [HF.out, idxF_end p l kk (by omega)])), hx0⟩

set_option maxHeartbeats 400000 in
theorem containsFunc_bound (A : Option Addr) (c : Nat) (l : List Bd) (fv : Value) (S : Bd → Prop) (p : Bd → Bool) (w : World) (hA : Bounds w A l) (hl : l.length ≤ 9223372036854775807)
    (hS : ∀ x, x ∈ l → S x) (hp : FnP Try.prog fv w BdR S p) :
    Calls Try.prog 90 #[.slice A l.length c, fv] w fun e w' => e = .returned (.bool (l.any p)) ∧ Ext w w' := by
  have H := hid (idxF_nonneg p l 0)
  have HS := hid hS
  clear hS
  go_enter Try.func90, Try.ntmps90
  go_wp2_with fail
  refine (indexFunc_bound A c l fv S p _ hA hl HS.out hp).mono ?_
  rintro e w1 ⟨rfl, hb1⟩
  go_wp2
  go_ret
  exact ⟨ret_of (bool_of (by rw [← H.out])), hb1⟩

set_option maxHeartbeats 400000 in
theorem every_bound (A : Option Addr) (c : Nat) (l : List Bd) (fv : Value) (S : Bd → Prop) (p : Bd → Bool) (w : World) (hA : Bounds w A l) (hl : l.length ≤ 9223372036854775807)
    (hS : ∀ x, x ∈ l → S x) (hp : FnP Try.prog fv w BdR S p) :
    Calls Try.prog 124 #[.slice A l.length c, fv] w fun e w' => e = .returned (.bool (l.all p)) ∧ Ext w w' := by
  have H := hid (all_any p l)
  have hfv : ∃ g fst lb, fv = .func (.func g) fst lb := by obtain ⟨g, fst, lb, h, _⟩ := hp; exact ⟨g, fst, lb, h⟩
  have HP := hid hp
  have HSS := hid hS
  clear hp hS
  have hq : FnP Try.prog (.func (.func 145) #[] #[.pointer (some ⟨w.heap.size, 0, none⟩)]) (w.alloc (.cells #[fv] 143)) BdR S (fun x => !p x) := by
    refine ⟨_, _, _, rfl, enters_of Try.func145 (by kernel_rfl) rfl, fun x v W hs hW hR => ?_⟩
    have HS := hid hs
    clear hs
    have hc : W.cell? ⟨w.heap.size, 0, none⟩ = some fv := hW.cell (by simp [go_sem])
    have hc2 : ∀ o, (W.alloc o).cell? ⟨w.heap.size, 0, none⟩ = some fv := fun o => (Ext.alloc (Ext.refl W) o).cell hc
    have hw : Kc w W := (Ext.alloc (Ext.refl w) _).kc.trans hW
    obtain ⟨g, fst, lb, rfl, eg, hcall⟩ := HP.out
    have HC := hid hcall
    clear hcall HP
    have HR := hid hR
    clear hR
    show Calls _ _ #[v, _] _ _
    go_enter Try.func145, Try.ntmps145
    obtain rfl : v = x.val := HR.out
    unfold Bd.val
    go_wp2_with fail
    refine (HC.out x _ _ HS.out (hw.alloc _) rfl).mono ?_
    rintro e w1 ⟨rfl, hb1⟩
    go_wp2
    go_ret
    exact ⟨rfl, (Ext.alloc (Ext.refl W) _).trans hb1⟩
  obtain ⟨g0, fst0, lb0, hfv⟩ := hfv
  have HQ := hid hq
  clear hq HP
  subst hfv
  go_enter Try.func124, Try.ntmps124
  go_wp2_with fail
  refine (containsFunc_bound A c l _ S _ _ (hA.ext (Ext.alloc (Ext.refl w) _)) hl HSS.out HQ.out).mono ?_
  rintro e w1 ⟨rfl, hb1⟩
  go_wp2
  go_ret
  exact ⟨ret_of (bool_of H.out.symm), (Ext.alloc (Ext.refl w) _).trans hb1⟩

set_option maxHeartbeats 1000000 in
theorem indexFunc_claim (A : Option Addr) (c : Nat) (l : List Cl) (fv : Value) (S : Cl → Prop) (p : Cl → Bool) (w : World) (hA : Claims w A l) (hl : l.length ≤ 9223372036854775807)
    (hS : ∀ x, x ∈ l → S x) (hp : FnP Try.prog fv w ClR S p) :
    Calls Try.prog 131 #[.slice A l.length c, fv] w fun e w' => e = .returned (.int .i64 (idxF p l 0)) ∧ Ext w w' := by
  obtain ⟨g, fst, lb, rfl, eg, hcall⟩ := hp
  have HC := hid hcall
  have HS := hid hS
  clear hcall hS
  have HF : Hid (idxF p l 0 = idxF p (l.drop 0) 0) := rfl
  generalize hF : idxF p l 0 = F at HF ⊢
  clear hF
  go_enter Try.func131, Try.ntmps131
  go_wp2
  go_loopg [5, 8] l.length (fun gg _ s8 wr => ∃ kk : Nat, kk ≤ l.length ∧ l.length - kk ≤ gg ∧ s8 = .int .i64 kk ∧ Ext w wr ∧ Hid (F = idxF p (l.drop kk) kk))
  case atStart => exact ⟨0, Nat.zero_le _, by omega, rfl, Ext.refl w, HF⟩
  case round =>
    obtain ⟨kk, h1, h2, rfl, hx0, HF⟩ := hrel
    by_cases hlt : kk < l.length
    · have hlt' : (kk : Int) < (l.length : Int) := by omega
      obtain ⟨x, hx⟩ := get_of_lt l kk hlt
      have hA := hA.ext hx0
      obtain ⟨b, off, A2, c2, rfl, c0, c1, hB2⟩ := hA.at_ hx
      have HX := hid hx
      clear hx
      go_wp2_with fail
      refine (HC.out x _ wr (HS.out x (mem_of_get HX.out)) hx0.kc ⟨_, _, rfl, hB2⟩).mono ?_
      have HD := idxF_drop p l kk x HX.out
      cases hq : p x
      · rw [hq] at HD
        have HD := hid HD
        rintro e w1 ⟨rfl, hb1⟩
        go_wp2
        go_roundg (l.length - (kk + 1))
        case measure => omega
        case rel => exact ⟨kk + 1, by omega, by omega, by go_num, hx0.trans hb1, HF.out.trans (by rw [HD.out]; rfl)⟩
      · rw [hq] at HD
        have HD := hid HD
        rintro e w1 ⟨rfl, hb1⟩
        go_wp2
        go_ret
        exact ⟨ret_of (int_of (by rw [HF.out, HD.out]; rfl)), hx0.trans hb1⟩
    · have hlt' : ¬ (kk : Int) < (l.length : Int) := by omega
      go_wp2
      go_ret
      exact ⟨ret_of (int_of (by rw [HF.out, idxF_end p l kk (by omega)])), hx0⟩

set_option maxHeartbeats 400000 in
theorem containsFunc_claim (A : Option Addr) (c : Nat) (l : List Cl) (fv : Value) (S : Cl → Prop) (p : Cl → Bool) (w : World) (hA : Claims w A l) (hl : l.length ≤ 9223372036854775807)
    (hS : ∀ x, x ∈ l → S x) (hp : FnP Try.prog fv w ClR S p) :
    Calls Try.prog 72 #[.slice A l.length c, fv] w fun e w' => e = .returned (.bool (l.any p)) ∧ Ext w w' := by
  have H := hid (idxF_nonneg p l 0)
  have HS := hid hS
  clear hS
  go_enter Try.func72, Try.ntmps72
  go_wp2_with fail
  refine (indexFunc_claim A c l fv S p _ hA hl HS.out hp).mono ?_
  rintro e w1 ⟨rfl, hb1⟩
  go_wp2
  go_ret
  exact ⟨ret_of (bool_of (by rw [← H.out])), hb1⟩

set_option maxHeartbeats 400000 in
theorem every_claim (A : Option Addr) (c : Nat) (l : List Cl) (fv : Value) (S : Cl → Prop) (p : Cl → Bool) (w : World) (hA : Claims w A l) (hl : l.length ≤ 9223372036854775807)
    (hS : ∀ x, x ∈ l → S x) (hp : FnP Try.prog fv w ClR S p) :
    Calls Try.prog 120 #[.slice A l.length c, fv] w fun e w' => e = .returned (.bool (l.all p)) ∧ Ext w w' := by
  have H := hid (all_any p l)
  have hfv : ∃ g fst lb, fv = .func (.func g) fst lb := by obtain ⟨g, fst, lb, h, _⟩ := hp; exact ⟨g, fst, lb, h⟩
  have HP := hid hp
  have HSS := hid hS
  clear hp hS
  have hq : FnP Try.prog (.func (.func 144) #[] #[.pointer (some ⟨w.heap.size, 0, none⟩)]) (w.alloc (.cells #[fv] 120)) ClR S (fun x => !p x) := by
    refine ⟨_, _, _, rfl, enters_of Try.func144 (by kernel_rfl) rfl, fun x v W hs hW hR => ?_⟩
    have HS := hid hs
    clear hs
    have hc : W.cell? ⟨w.heap.size, 0, none⟩ = some fv := hW.cell (by simp [go_sem])
    have hc2 : ∀ o, (W.alloc o).cell? ⟨w.heap.size, 0, none⟩ = some fv := fun o => (Ext.alloc (Ext.refl W) o).cell hc
    have hw : Kc w W := (Ext.alloc (Ext.refl w) _).kc.trans hW
    obtain ⟨g, fst, lb, rfl, eg, hcall⟩ := HP.out
    have HC := hid hcall
    clear hcall HP
    have HR := hid hR
    clear hR
    show Calls _ _ #[v, _] _ _
    go_enter Try.func144, Try.ntmps144
    obtain ⟨A3, c3, rfl, hB3⟩ := HR.out
    go_wp2_with fail
    refine (HC.out x _ _ HS.out (hw.alloc _) ⟨_, _, rfl, hB3.ext (Ext.alloc (Ext.refl W) _)⟩).mono ?_
    rintro e w1 ⟨rfl, hb1⟩
    go_wp2
    go_ret
    exact ⟨rfl, (Ext.alloc (Ext.refl W) _).trans hb1⟩
  obtain ⟨g0, fst0, lb0, hfv⟩ := hfv
  have HQ := hid hq
  clear hq HP
  subst hfv
  go_enter Try.func120, Try.ntmps120
  go_wp2_with fail
  refine (containsFunc_claim A c l _ S _ _ (hA.ext (Ext.alloc (Ext.refl w) _)) hl HSS.out HQ.out).mono ?_
  rintro e w1 ⟨rfl, hb1⟩
  go_wp2
  go_ret
  exact ⟨ret_of (bool_of H.out.symm), (Ext.alloc (Ext.refl w) _).trans hb1⟩
end Go.Proofs.Ytgnjhaomlbkgcaa
