/- The library's IndexFunc and ContainsFunc, and the program's every, over the kinds of elements of layer 5, whatever the function value (it may lay new blocks). Printed by gen_fslices.py. slices.Clone and laurelkit.Dup over the kinds of elements of layer 5: rows of their own. Printed by gen_fslices.py. The walks of cmp.Less, slices.IsSorted and slices.Compact over numbers. Printed by my gen_ford.py. slices.Compact over numbers of a row of one's own; clear on such a row. The walks of what fog.Check calls: in, the methods that tell whether there is a place, a minute, a blast, a cart; sides; again; the closures. The walks of fog.again over the kinds of elements, whatever is asked of two of them. (Was printed by a program of mine once; now the source.) The walks of the closures of fog.Check that ask whether something stands twice, or in order. Printed by my gen_fchk2.py. -/
import Derived.Test.YtlonpgbapiemcaaGreatProg
import Derived.Test.YtlonpgbapiemcaaGreatG1
import Derived.Test.YtlonpgbapiemcaaGreatG2
import Derived.OwnWalk
import Derived.Laws.CopyOwn
import Derived.Laws.ResultCell
namespace Go.Proofs.YtlonpgbapiemcaaGreat
open Go Go.RowKit
set_option linter.unusedVariables false
set_option linter.unusedSimpArgs false

set_option maxHeartbeats 1000000 in
theorem indexFunc_int (A : Option Addr) (c : Nat) (l : List Int) (fv : Value) (S : Int → Prop) (p : Int → Bool) (w : World) (hA : Ints w A l) (hl : l.length ≤ 9223372036854775807)
    (hS : ∀ x, x ∈ l → S x) (hp : FnP Tryz.prog fv w IntR S p) :
    Calls Tryz.prog 89 #[.slice A l.length c, fv] w fun e w' => e = .returned (.int .i64 (idxF p l 0)) ∧ Ext w w' := by
  obtain ⟨g, fst, lb, rfl, eg, hcall⟩ := hp
  have HC := hid hcall
  have HS := hid hS
  clear hcall hS
  have HF : Hid (idxF p l 0 = idxF p (l.drop 0) 0) := rfl
  generalize hF : idxF p l 0 = F at HF ⊢
  clear hF
  go_enter Tryz.func89, Tryz.ntmps89
  go_wp2
  go_loopg [5, 8] l.length (fun gg _ s8 wr => ∃ kk : Nat, kk ≤ l.length ∧ l.length - kk ≤ gg ∧ s8 = .int .i64 kk ∧ Ext w wr ∧ Hid (F = idxF p (l.drop kk) kk))
  case atStart => exact ⟨0, Nat.zero_le _, by omega, rfl, Ext.refl w, HF⟩
  case round =>
    obtain ⟨kk, h1, h2, rfl, hx0, HF⟩ := hrel
    by_cases hlt : kk < l.length
    · have hlt' : (kk : Int) < (l.length : Int) := by omega
      obtain ⟨x, hx⟩ := get_of_lt l kk hlt
      have hA := hA.ext hx0
      obtain ⟨b, off, rfl, c0⟩ := hA.at_ hx
      have HX := hid hx
      clear hx
      go_wp2_with fail
      refine (HC.out x _ wr (HS.out x (mem_of_get HX.out)) hx0.kc rfl).mono ?_
      have HD := idxF_drop p l kk x HX.out
      cases hq : p x
      · rw [hq] at HD
        have HD := hid HD
        rintro e w1 ⟨rfl, hb1⟩
        go_wp2
        go_roundg (l.length - (kk + 1))
        case measure => omega
        case rel => exact ⟨kk + 1, by omega, by omega, by go_num, hx0.trans hb1, HF.out.trans (by rw [HD.out]; rfl)⟩
      · rw [hq] at HD
        have HD := hid HD
        rintro e w1 ⟨rfl, hb1⟩
        go_wp2
        go_ret
        exact ⟨ret_of (int_of (by rw [HF.out, HD.out]; rfl)), hx0.trans hb1⟩
    · have hlt' : ¬ (kk : Int) < (l.length : Int) := by omega
      go_wp2
      go_ret
      exact ⟨ret_of (int_of (by rw [HF.out, idxF_end p l kk (by omega)])), hx0⟩

set_option maxHeartbeats 400000 in
theorem containsFunc_int (A : Option Addr) (c : Nat) (l : List Int) (fv : Value) (S : Int → Prop) (p : Int → Bool) (w : World) (hA : Ints w A l) (hl : l.length ≤ 9223372036854775807)
    (hS : ∀ x, x ∈ l → S x) (hp : FnP Tryz.prog fv w IntR S p) :
    Calls Tryz.prog 162 #[.slice A l.length c, fv] w fun e w' => e = .returned (.bool (l.any p)) ∧ Ext w w' := by
  have H := hid (idxF_nonneg p l 0)
  have HS := hid hS
  clear hS
  go_enter Tryz.func162, Tryz.ntmps162
  go_wp2_with fail
  refine (indexFunc_int A c l fv S p _ hA hl HS.out hp).mono ?_
  rintro e w1 ⟨rfl, hb1⟩
  go_wp2
  go_ret
  exact ⟨ret_of (bool_of (by rw [← H.out])), hb1⟩

set_option maxHeartbeats 400000 in
theorem every_int (A : Option Addr) (c : Nat) (l : List Int) (fv : Value) (S : Int → Prop) (p : Int → Bool) (w : World) (hA : Ints w A l) (hl : l.length ≤ 9223372036854775807)
    (hS : ∀ x, x ∈ l → S x) (hp : FnP Tryz.prog fv w IntR S p) :
    Calls Tryz.prog 73 #[.slice A l.length c, fv] w fun e w' => e = .returned (.bool (l.all p)) ∧ Ext w w' := by
  have H := hid (all_any p l)
  have hfv : ∃ g fst lb, fv = .func (.func g) fst lb := by obtain ⟨g, fst, lb, h, _⟩ := hp; exact ⟨g, fst, lb, h⟩
  have HP := hid hp
  have HSS := hid hS
  clear hp hS
  have hq : FnP Tryz.prog (.func (.func 163) #[] #[.pointer (some ⟨w.heap.size, 0, none⟩)]) (w.alloc (.cells #[fv] 97)) IntR S (fun x => !p x) := by
    refine ⟨_, _, _, rfl, enters_of Tryz.func163 (by kernel_rfl) rfl, fun x v W hs hW hR => ?_⟩
    have HS := hid hs
    clear hs
    have hc : W.cell? ⟨w.heap.size, 0, none⟩ = some fv := hW.cell (by simp [go_sem])
    have hc2 : ∀ o, (W.alloc o).cell? ⟨w.heap.size, 0, none⟩ = some fv := fun o => (Ext.alloc (Ext.refl W) o).cell hc
    have hw : Kc w W := (Ext.alloc (Ext.refl w) _).kc.trans hW
    obtain ⟨g, fst, lb, rfl, eg, hcall⟩ := HP.out
    have HC := hid hcall
    clear hcall HP
    have HR := hid hR
    clear hR
    show Calls _ _ #[v, _] _ _
    go_enter Tryz.func163, Tryz.ntmps163
    go_wp2_with fail
    refine (HC.out x v W HS.out hw HR.out).mono ?_
    rintro e w1 ⟨rfl, hb1⟩
    go_wp2
    go_ret
    exact ⟨rfl, hb1⟩
  obtain ⟨g0, fst0, lb0, hfv⟩ := hfv
  have HQ := hid hq
  clear hq HP
  subst hfv
  go_enter Tryz.func73, Tryz.ntmps73
  go_wp2_with fail
  refine (containsFunc_int A c l _ S _ _ (hA.ext (Ext.alloc (Ext.refl w) _)) hl HSS.out HQ.out).mono ?_
  rintro e w1 ⟨rfl, hb1⟩
  go_wp2
  go_ret
  exact ⟨ret_of (bool_of H.out.symm), (Ext.alloc (Ext.refl w) _).trans hb1⟩

set_option maxHeartbeats 1000000 in
theorem indexFunc_pair (A : Option Addr) (c : Nat) (l : List (Int × Int)) (fv : Value) (S : (Int × Int) → Prop) (p : (Int × Int) → Bool) (w : World) (hA : Prs w A l) (hl : l.length ≤ 9223372036854775807)
    (hS : ∀ x, x ∈ l → S x) (hp : FnP Tryz.prog fv w PrR S p) :
    Calls Tryz.prog 224 #[.slice A l.length c, fv] w fun e w' => e = .returned (.int .i64 (idxF p l 0)) ∧ Ext w w' := by
  obtain ⟨g, fst, lb, rfl, eg, hcall⟩ := hp
  have HC := hid hcall
  have HS := hid hS
  clear hcall hS
  have HF : Hid (idxF p l 0 = idxF p (l.drop 0) 0) := rfl
  generalize hF : idxF p l 0 = F at HF ⊢
  clear hF
  go_enter Tryz.func224, Tryz.ntmps224
  go_wp2
  go_loopg [5, 8] l.length (fun gg _ s8 wr => ∃ kk : Nat, kk ≤ l.length ∧ l.length - kk ≤ gg ∧ s8 = .int .i64 kk ∧ Ext w wr ∧ Hid (F = idxF p (l.drop kk) kk))
  case atStart => exact ⟨0, Nat.zero_le _, by omega, rfl, Ext.refl w, HF⟩
  case round =>
    obtain ⟨kk, h1, h2, rfl, hx0, HF⟩ := hrel
    by_cases hlt : kk < l.length
    · have hlt' : (kk : Int) < (l.length : Int) := by omega
      obtain ⟨x, hx⟩ := get_of_lt l kk hlt
      have hA := hA.ext hx0
      obtain ⟨b, off, rfl, c0, c1⟩ := Prs.at_ hA hx
      have HX := hid hx
      clear hx
      go_wp2_with fail
      refine (HC.out x _ wr (HS.out x (mem_of_get HX.out)) hx0.kc rfl).mono ?_
      have HD := idxF_drop p l kk x HX.out
      cases hq : p x
      · rw [hq] at HD
        have HD := hid HD
        rintro e w1 ⟨rfl, hb1⟩
        go_wp2
        go_roundg (l.length - (kk + 1))
        case measure => omega
        case rel => exact ⟨kk + 1, by omega, by omega, by go_num, hx0.trans hb1, HF.out.trans (by rw [HD.out]; rfl)⟩
      · rw [hq] at HD
        have HD := hid HD
        rintro e w1 ⟨rfl, hb1⟩
        go_wp2
        go_ret
        exact ⟨ret_of (int_of (by rw [HF.out, HD.out]; rfl)), hx0.trans hb1⟩
    · have hlt' : ¬ (kk : Int) < (l.length : Int) := by omega
      go_wp2
      go_ret
      exact ⟨ret_of (int_of (by rw [HF.out, idxF_end p l kk (by omega)])), hx0⟩

set_option maxHeartbeats 400000 in
theorem containsFunc_pair (A : Option Addr) (c : Nat) (l : List (Int × Int)) (fv : Value) (S : (Int × Int) → Prop) (p : (Int × Int) → Bool) (w : World) (hA : Prs w A l) (hl : l.length ≤ 9223372036854775807)
    (hS : ∀ x, x ∈ l → S x) (hp : FnP Tryz.prog fv w PrR S p) :
    Calls Tryz.prog 160 #[.slice A l.length c, fv] w fun e w' => e = .returned (.bool (l.any p)) ∧ Ext w w' := by
  have H := hid (idxF_nonneg p l 0)
  have HS := hid hS
  clear hS
  go_enter Tryz.func160, Tryz.ntmps160
  go_wp2_with fail
  refine (indexFunc_pair A c l fv S p _ hA hl HS.out hp).mono ?_
  rintro e w1 ⟨rfl, hb1⟩
  go_wp2
  go_ret
  exact ⟨ret_of (bool_of (by rw [← H.out])), hb1⟩

set_option maxHeartbeats 400000 in
theorem every_pair (A : Option Addr) (c : Nat) (l : List (Int × Int)) (fv : Value) (S : (Int × Int) → Prop) (p : (Int × Int) → Bool) (w : World) (hA : Prs w A l) (hl : l.length ≤ 9223372036854775807)
    (hS : ∀ x, x ∈ l → S x) (hp : FnP Tryz.prog fv w PrR S p) :
    Calls Tryz.prog 69 #[.slice A l.length c, fv] w fun e w' => e = .returned (.bool (l.all p)) ∧ Ext w w' := by
  have H := hid (all_any p l)
  have hfv : ∃ g fst lb, fv = .func (.func g) fst lb := by obtain ⟨g, fst, lb, h, _⟩ := hp; exact ⟨g, fst, lb, h⟩
  have HP := hid hp
  have HSS := hid hS
  clear hp hS
  have hq : FnP Tryz.prog (.func (.func 161) #[] #[.pointer (some ⟨w.heap.size, 0, none⟩)]) (w.alloc (.cells #[fv] 136)) PrR S (fun x => !p x) := by
    refine ⟨_, _, _, rfl, enters_of Tryz.func161 (by kernel_rfl) rfl, fun x v W hs hW hR => ?_⟩
    have HS := hid hs
    clear hs
    have hc : W.cell? ⟨w.heap.size, 0, none⟩ = some fv := hW.cell (by simp [go_sem])
    have hc2 : ∀ o, (W.alloc o).cell? ⟨w.heap.size, 0, none⟩ = some fv := fun o => (Ext.alloc (Ext.refl W) o).cell hc
    have hw : Kc w W := (Ext.alloc (Ext.refl w) _).kc.trans hW
    obtain ⟨g, fst, lb, rfl, eg, hcall⟩ := HP.out
    have HC := hid hcall
    clear hcall HP
    have HR := hid hR
    clear hR
    show Calls _ _ #[v, _] _ _
    go_enter Tryz.func161, Tryz.ntmps161
    obtain rfl : v = pval x := HR.out
    unfold pval
    go_wp2_with fail
    refine (HC.out x _ _ HS.out (hw.alloc _) rfl).mono ?_
    rintro e w1 ⟨rfl, hb1⟩
    go_wp2
    go_ret
    exact ⟨rfl, (Ext.alloc (Ext.refl W) _).trans hb1⟩
  obtain ⟨g0, fst0, lb0, hfv⟩ := hfv
  have HQ := hid hq
  clear hq HP
  subst hfv
  go_enter Tryz.func69, Tryz.ntmps69
  go_wp2_with fail
  refine (containsFunc_pair A c l _ S _ _ (hA.ext (Ext.alloc (Ext.refl w) _)) hl HSS.out HQ.out).mono ?_
  rintro e w1 ⟨rfl, hb1⟩
  go_wp2
  go_ret
  exact ⟨ret_of (bool_of H.out.symm), (Ext.alloc (Ext.refl w) _).trans hb1⟩

set_option maxHeartbeats 1000000 in
theorem indexFunc_blast (A : Option Addr) (c : Nat) (l : List Bl) (fv : Value) (S : Bl → Prop) (p : Bl → Bool) (w : World) (hA : Blasts w A l) (hl : l.length ≤ 9223372036854775807)
    (hS : ∀ x, x ∈ l → S x) (hp : FnP Tryz.prog fv w BlR S p) :
    Calls Tryz.prog 223 #[.slice A l.length c, fv] w fun e w' => e = .returned (.int .i64 (idxF p l 0)) ∧ Ext w w' := by
  obtain ⟨g, fst, lb, rfl, eg, hcall⟩ := hp
  have HC := hid hcall
  have HS := hid hS
  clear hcall hS
  have HF : Hid (idxF p l 0 = idxF p (l.drop 0) 0) := rfl
  generalize hF : idxF p l 0 = F at HF ⊢
  clear hF
  go_enter Tryz.func223, Tryz.ntmps223
  go_wp2
  go_loopg [5, 8] l.length (fun gg _ s8 wr => ∃ kk : Nat, kk ≤ l.length ∧ l.length - kk ≤ gg ∧ s8 = .int .i64 kk ∧ Ext w wr ∧ Hid (F = idxF p (l.drop kk) kk))
  case atStart => exact ⟨0, Nat.zero_le _, by omega, rfl, Ext.refl w, HF⟩
  case round =>
    obtain ⟨kk, h1, h2, rfl, hx0, HF⟩ := hrel
    by_cases hlt : kk < l.length
    · have hlt' : (kk : Int) < (l.length : Int) := by omega
      obtain ⟨x, hx⟩ := get_of_lt l kk hlt
      have hA := hA.ext hx0
      obtain ⟨b, off, rfl, c0, c1, c2⟩ := Blasts.at_ hA hx
      have HX := hid hx
      clear hx
      go_wp2_with fail
      refine (HC.out x _ wr (HS.out x (mem_of_get HX.out)) hx0.kc rfl).mono ?_
      have HD := idxF_drop p l kk x HX.out
      cases hq : p x
      · rw [hq] at HD
        have HD := hid HD
        rintro e w1 ⟨rfl, hb1⟩
        go_wp2
        go_roundg (l.length - (kk + 1))
        case measure => omega
        case rel => exact ⟨kk + 1, by omega, by omega, by go_num, hx0.trans hb1, HF.out.trans (by rw [HD.out]; rfl)⟩
      · rw [hq] at HD
        have HD := hid HD
        rintro e w1 ⟨rfl, hb1⟩
        go_wp2
        go_ret
        exact ⟨ret_of (int_of (by rw [HF.out, HD.out]; rfl)), hx0.trans hb1⟩
    · have hlt' : ¬ (kk : Int) < (l.length : Int) := by omega
      go_wp2
      go_ret
      exact ⟨ret_of (int_of (by rw [HF.out, idxF_end p l kk (by omega)])), hx0⟩

set_option maxHeartbeats 400000 in
theorem containsFunc_blast (A : Option Addr) (c : Nat) (l : List Bl) (fv : Value) (S : Bl → Prop) (p : Bl → Bool) (w : World) (hA : Blasts w A l) (hl : l.length ≤ 9223372036854775807)
    (hS : ∀ x, x ∈ l → S x) (hp : FnP Tryz.prog fv w BlR S p) :
    Calls Tryz.prog 158 #[.slice A l.length c, fv] w fun e w' => e = .returned (.bool (l.any p)) ∧ Ext w w' := by
  have H := hid (idxF_nonneg p l 0)
  have HS := hid hS
  clear hS
  go_enter Tryz.func158, Tryz.ntmps158
  go_wp2_with fail
  refine (indexFunc_blast A c l fv S p _ hA hl HS.out hp).mono ?_
  rintro e w1 ⟨rfl, hb1⟩
  go_wp2
  go_ret
  exact ⟨ret_of (bool_of (by rw [← H.out])), hb1⟩

set_option maxHeartbeats 400000 in
theorem every_blast (A : Option Addr) (c : Nat) (l : List Bl) (fv : Value) (S : Bl → Prop) (p : Bl → Bool) (w : World) (hA : Blasts w A l) (hl : l.length ≤ 9223372036854775807)
    (hS : ∀ x, x ∈ l → S x) (hp : FnP Tryz.prog fv w BlR S p) :
    Calls Tryz.prog 66 #[.slice A l.length c, fv] w fun e w' => e = .returned (.bool (l.all p)) ∧ Ext w w' := by
  have H := hid (all_any p l)
  have hfv : ∃ g fst lb, fv = .func (.func g) fst lb := by obtain ⟨g, fst, lb, h, _⟩ := hp; exact ⟨g, fst, lb, h⟩
  have HP := hid hp
  have HSS := hid hS
  clear hp hS
  have hq : FnP Tryz.prog (.func (.func 159) #[] #[.pointer (some ⟨w.heap.size, 0, none⟩)]) (w.alloc (.cells #[fv] 134)) BlR S (fun x => !p x) := by
    refine ⟨_, _, _, rfl, enters_of Tryz.func159 (by kernel_rfl) rfl, fun x v W hs hW hR => ?_⟩
    have HS := hid hs
    clear hs
    have hc : W.cell? ⟨w.heap.size, 0, none⟩ = some fv := hW.cell (by simp [go_sem])
    have hc2 : ∀ o, (W.alloc o).cell? ⟨w.heap.size, 0, none⟩ = some fv := fun o => (Ext.alloc (Ext.refl W) o).cell hc
    have hw : Kc w W := (Ext.alloc (Ext.refl w) _).kc.trans hW
    obtain ⟨g, fst, lb, rfl, eg, hcall⟩ := HP.out
    have HC := hid hcall
    clear hcall HP
    have HR := hid hR
    clear hR
    show Calls _ _ #[v, _] _ _
    go_enter Tryz.func159, Tryz.ntmps159
    obtain rfl : v = Bl.val x := HR.out
    unfold Bl.val
    go_wp2_with fail
    refine (HC.out x _ _ HS.out (hw.alloc _) rfl).mono ?_
    rintro e w1 ⟨rfl, hb1⟩
    go_wp2
    go_ret
    exact ⟨rfl, (Ext.alloc (Ext.refl W) _).trans hb1⟩
  obtain ⟨g0, fst0, lb0, hfv⟩ := hfv
  have HQ := hid hq
  clear hq HP
  subst hfv
  go_enter Tryz.func66, Tryz.ntmps66
  go_wp2_with fail
  refine (containsFunc_blast A c l _ S _ _ (hA.ext (Ext.alloc (Ext.refl w) _)) hl HSS.out HQ.out).mono ?_
  rintro e w1 ⟨rfl, hb1⟩
  go_wp2
  go_ret
  exact ⟨ret_of (bool_of H.out.symm), (Ext.alloc (Ext.refl w) _).trans hb1⟩

set_option maxHeartbeats 1000000 in
theorem indexFunc_rep (A : Option Addr) (c : Nat) (l : List Rp) (fv : Value) (S : Rp → Prop) (p : Rp → Bool) (w : World) (hA : Reps w A l) (hl : l.length ≤ 9223372036854775807)
    (hS : ∀ x, x ∈ l → S x) (hp : FnP Tryz.prog fv w RpR S p) :
    Calls Tryz.prog 169 #[.slice A l.length c, fv] w fun e w' => e = .returned (.int .i64 (idxF p l 0)) ∧ Ext w w' := by
  obtain ⟨g, fst, lb, rfl, eg, hcall⟩ := hp
  have HC := hid hcall
  have HS := hid hS
  clear hcall hS
  have HF : Hid (idxF p l 0 = idxF p (l.drop 0) 0) := rfl
  generalize hF : idxF p l 0 = F at HF ⊢
  clear hF
  go_enter Tryz.func169, Tryz.ntmps169
  go_wp2
  go_loopg [5, 8] l.length (fun gg _ s8 wr => ∃ kk : Nat, kk ≤ l.length ∧ l.length - kk ≤ gg ∧ s8 = .int .i64 kk ∧ Ext w wr ∧ Hid (F = idxF p (l.drop kk) kk))
  case atStart => exact ⟨0, Nat.zero_le _, by omega, rfl, Ext.refl w, HF⟩
  case round =>
    obtain ⟨kk, h1, h2, rfl, hx0, HF⟩ := hrel
    by_cases hlt : kk < l.length
    · have hlt' : (kk : Int) < (l.length : Int) := by omega
      obtain ⟨x, hx⟩ := get_of_lt l kk hlt
      have hA := hA.ext hx0
      obtain ⟨b, off, rfl, c0, c1⟩ := Reps.at_ hA hx
      have HX := hid hx
      clear hx
      go_wp2_with fail
      refine (HC.out x _ wr (HS.out x (mem_of_get HX.out)) hx0.kc rfl).mono ?_
      have HD := idxF_drop p l kk x HX.out
      cases hq : p x
      · rw [hq] at HD
        have HD := hid HD
        rintro e w1 ⟨rfl, hb1⟩
        go_wp2
        go_roundg (l.length - (kk + 1))
        case measure => omega
        case rel => exact ⟨kk + 1, by omega, by omega, by go_num, hx0.trans hb1, HF.out.trans (by rw [HD.out]; rfl)⟩
      · rw [hq] at HD
        have HD := hid HD
        rintro e w1 ⟨rfl, hb1⟩
        go_wp2
        go_ret
        exact ⟨ret_of (int_of (by rw [HF.out, HD.out]; rfl)), hx0.trans hb1⟩
    · have hlt' : ¬ (kk : Int) < (l.length : Int) := by omega
      go_wp2
      go_ret
      exact ⟨ret_of (int_of (by rw [HF.out, idxF_end p l kk (by omega)])), hx0⟩

set_option maxHeartbeats 400000 in
theorem containsFunc_rep (A : Option Addr) (c : Nat) (l : List Rp) (fv : Value) (S : Rp → Prop) (p : Rp → Bool) (w : World) (hA : Reps w A l) (hl : l.length ≤ 9223372036854775807)
    (hS : ∀ x, x ∈ l → S x) (hp : FnP Tryz.prog fv w RpR S p) :
    Calls Tryz.prog 93 #[.slice A l.length c, fv] w fun e w' => e = .returned (.bool (l.any p)) ∧ Ext w w' := by
  have H := hid (idxF_nonneg p l 0)
  have HS := hid hS
  clear hS
  go_enter Tryz.func93, Tryz.ntmps93
  go_wp2_with fail
  refine (indexFunc_rep A c l fv S p _ hA hl HS.out hp).mono ?_
  rintro e w1 ⟨rfl, hb1⟩
  go_wp2
  go_ret
  exact ⟨ret_of (bool_of (by rw [← H.out])), hb1⟩

set_option maxHeartbeats 400000 in
theorem every_rep (A : Option Addr) (c : Nat) (l : List Rp) (fv : Value) (S : Rp → Prop) (p : Rp → Bool) (w : World) (hA : Reps w A l) (hl : l.length ≤ 9223372036854775807)
    (hS : ∀ x, x ∈ l → S x) (hp : FnP Tryz.prog fv w RpR S p) :
    Calls Tryz.prog 74 #[.slice A l.length c, fv] w fun e w' => e = .returned (.bool (l.all p)) ∧ Ext w w' := by
  have H := hid (all_any p l)
  have hfv : ∃ g fst lb, fv = .func (.func g) fst lb := by obtain ⟨g, fst, lb, h, _⟩ := hp; exact ⟨g, fst, lb, h⟩
  have HP := hid hp
  have HSS := hid hS
  clear hp hS
  have hq : FnP Tryz.prog (.func (.func 164) #[] #[.pointer (some ⟨w.heap.size, 0, none⟩)]) (w.alloc (.cells #[fv] 139)) RpR S (fun x => !p x) := by
    refine ⟨_, _, _, rfl, enters_of Tryz.func164 (by kernel_rfl) rfl, fun x v W hs hW hR => ?_⟩
    have HS := hid hs
    clear hs
    have hc : W.cell? ⟨w.heap.size, 0, none⟩ = some fv := hW.cell (by simp [go_sem])
    have hc2 : ∀ o, (W.alloc o).cell? ⟨w.heap.size, 0, none⟩ = some fv := fun o => (Ext.alloc (Ext.refl W) o).cell hc
    have hw : Kc w W := (Ext.alloc (Ext.refl w) _).kc.trans hW
    obtain ⟨g, fst, lb, rfl, eg, hcall⟩ := HP.out
    have HC := hid hcall
    clear hcall HP
    have HR := hid hR
    clear hR
    show Calls _ _ #[v, _] _ _
    go_enter Tryz.func164, Tryz.ntmps164
    obtain rfl : v = Rp.val x := HR.out
    unfold Rp.val
    go_wp2_with fail
    refine (HC.out x _ _ HS.out (hw.alloc _) rfl).mono ?_
    rintro e w1 ⟨rfl, hb1⟩
    go_wp2
    go_ret
    exact ⟨rfl, (Ext.alloc (Ext.refl W) _).trans hb1⟩
  obtain ⟨g0, fst0, lb0, hfv⟩ := hfv
  have HQ := hid hq
  clear hq HP
  subst hfv
  go_enter Tryz.func74, Tryz.ntmps74
  go_wp2_with fail
  refine (containsFunc_rep A c l _ S _ _ (hA.ext (Ext.alloc (Ext.refl w) _)) hl HSS.out HQ.out).mono ?_
  rintro e w1 ⟨rfl, hb1⟩
  go_wp2
  go_ret
  exact ⟨ret_of (bool_of H.out.symm), (Ext.alloc (Ext.refl w) _).trans hb1⟩

set_option maxHeartbeats 1000000 in
theorem indexFunc_cart (A : Option Addr) (c : Nat) (l : List Ct) (fv : Value) (S : Ct → Prop) (p : Ct → Bool) (w : World) (hA : Carts w A l) (hl : l.length ≤ 9223372036854775807)
    (hS : ∀ x, x ∈ l → S x) (hp : FnP Tryz.prog fv w CtR S p) :
    Calls Tryz.prog 222 #[.slice A l.length c, fv] w fun e w' => e = .returned (.int .i64 (idxF p l 0)) ∧ Ext w w' := by
  obtain ⟨g, fst, lb, rfl, eg, hcall⟩ := hp
  have HC := hid hcall
  have HS := hid hS
  clear hcall hS
  have HF : Hid (idxF p l 0 = idxF p (l.drop 0) 0) := rfl
  generalize hF : idxF p l 0 = F at HF ⊢
  clear hF
  go_enter Tryz.func222, Tryz.ntmps222
  go_wp2
  go_loopg [5, 8] l.length (fun gg _ s8 wr => ∃ kk : Nat, kk ≤ l.length ∧ l.length - kk ≤ gg ∧ s8 = .int .i64 kk ∧ Ext w wr ∧ Hid (F = idxF p (l.drop kk) kk))
  case atStart => exact ⟨0, Nat.zero_le _, by omega, rfl, Ext.refl w, HF⟩
  case round =>
    obtain ⟨kk, h1, h2, rfl, hx0, HF⟩ := hrel
    by_cases hlt : kk < l.length
    · have hlt' : (kk : Int) < (l.length : Int) := by omega
      obtain ⟨x, hx⟩ := get_of_lt l kk hlt
      have hA := hA.ext hx0
      obtain ⟨b, off, A2, c2, A3, c3, rfl, c0, c1, hB2, hB3, hk2, hk3⟩ := hA.at_ hx
      have HX := hid hx
      clear hx
      go_wp2_with fail
      refine (HC.out x _ wr (HS.out x (mem_of_get HX.out)) hx0.kc ⟨_, _, _, _, rfl, hB2, hB3, hk2, hk3⟩).mono ?_
      have HD := idxF_drop p l kk x HX.out
      cases hq : p x
      · rw [hq] at HD
        have HD := hid HD
        rintro e w1 ⟨rfl, hb1⟩
        go_wp2
        go_roundg (l.length - (kk + 1))
        case measure => omega
        case rel => exact ⟨kk + 1, by omega, by omega, by go_num, hx0.trans hb1, HF.out.trans (by rw [HD.out]; rfl)⟩
      · rw [hq] at HD
        have HD := hid HD
        rintro e w1 ⟨rfl, hb1⟩
        go_wp2
        go_ret
        exact ⟨ret_of (int_of (by rw [HF.out, HD.out]; rfl)), hx0.trans hb1⟩
    · have hlt' : ¬ (kk : Int) < (l.length : Int) := by omega
      go_wp2
      go_ret
      exact ⟨ret_of (int_of (by rw [HF.out, idxF_end p l kk (by omega)])), hx0⟩

set_option maxHeartbeats 400000 in
theorem containsFunc_cart (A : Option Addr) (c : Nat) (l : List Ct) (fv : Value) (S : Ct → Prop) (p : Ct → Bool) (w : World) (hA : Carts w A l) (hl : l.length ≤ 9223372036854775807)
    (hS : ∀ x, x ∈ l → S x) (hp : FnP Tryz.prog fv w CtR S p) :
    Calls Tryz.prog 156 #[.slice A l.length c, fv] w fun e w' => e = .returned (.bool (l.any p)) ∧ Ext w w' := by
  have H := hid (idxF_nonneg p l 0)
  have HS := hid hS
  clear hS
  go_enter Tryz.func156, Tryz.ntmps156
  go_wp2_with fail
  refine (indexFunc_cart A c l fv S p _ hA hl HS.out hp).mono ?_
  rintro e w1 ⟨rfl, hb1⟩
  go_wp2
  go_ret
  exact ⟨ret_of (bool_of (by rw [← H.out])), hb1⟩

set_option maxHeartbeats 400000 in
theorem every_cart (A : Option Addr) (c : Nat) (l : List Ct) (fv : Value) (S : Ct → Prop) (p : Ct → Bool) (w : World) (hA : Carts w A l) (hl : l.length ≤ 9223372036854775807)
    (hS : ∀ x, x ∈ l → S x) (hp : FnP Tryz.prog fv w CtR S p) :
    Calls Tryz.prog 64 #[.slice A l.length c, fv] w fun e w' => e = .returned (.bool (l.all p)) ∧ Ext w w' := by
  have H := hid (all_any p l)
  have hfv : ∃ g fst lb, fv = .func (.func g) fst lb := by obtain ⟨g, fst, lb, h, _⟩ := hp; exact ⟨g, fst, lb, h⟩
  have HP := hid hp
  have HSS := hid hS
  clear hp hS
  have hq : FnP Tryz.prog (.func (.func 157) #[] #[.pointer (some ⟨w.heap.size, 0, none⟩)]) (w.alloc (.cells #[fv] 132)) CtR S (fun x => !p x) := by
    refine ⟨_, _, _, rfl, enters_of Tryz.func157 (by kernel_rfl) rfl, fun x v W hs hW hR => ?_⟩
    have HS := hid hs
    clear hs
    have hc : W.cell? ⟨w.heap.size, 0, none⟩ = some fv := hW.cell (by simp [go_sem])
    have hc2 : ∀ o, (W.alloc o).cell? ⟨w.heap.size, 0, none⟩ = some fv := fun o => (Ext.alloc (Ext.refl W) o).cell hc
    have hw : Kc w W := (Ext.alloc (Ext.refl w) _).kc.trans hW
    obtain ⟨g, fst, lb, rfl, eg, hcall⟩ := HP.out
    have HC := hid hcall
    clear hcall HP
    have HR := hid hR
    clear hR
    show Calls _ _ #[v, _] _ _
    go_enter Tryz.func157, Tryz.ntmps157
    obtain ⟨A3, c3, A4, c4, rfl, hB3, hB4, hk5⟩ := HR.out
    go_wp2_with fail
    refine (HC.out x _ _ HS.out (hw.alloc _) ⟨_, _, _, _, rfl, hB3.ext (Ext.alloc (Ext.refl W) _), hB4.ext (Ext.alloc (Ext.refl W) _), hk5⟩).mono ?_
    rintro e w1 ⟨rfl, hb1⟩
    go_wp2
    go_ret
    exact ⟨rfl, (Ext.alloc (Ext.refl W) _).trans hb1⟩
  obtain ⟨g0, fst0, lb0, hfv⟩ := hfv
  have HQ := hid hq
  clear hq HP
  subst hfv
  go_enter Tryz.func64, Tryz.ntmps64
  go_wp2_with fail
  refine (containsFunc_cart A c l _ S _ _ (hA.ext (Ext.alloc (Ext.refl w) _)) hl HSS.out HQ.out).mono ?_
  rintro e w1 ⟨rfl, hb1⟩
  go_wp2
  go_ret
  exact ⟨ret_of (bool_of H.out.symm), (Ext.alloc (Ext.refl w) _).trans hb1⟩
end Go.Proofs.YtlonpgbapiemcaaGreat

namespace Go.Proofs.YtlonpgbapiemcaaGreat
open Go Go.RowKit
set_option linter.unusedVariables false
set_option linter.unusedSimpArgs false

theorem own_at {w : World} {base e size n c : Nat} {A : Option Addr} {xs : List Value} (h : w.ownsRow base e size (.slice A n c) n xs) (hA : A ≠ none) : ∃ g, A = some ⟨g, 0, none⟩ := by
  rcases h.2 with ⟨h, _⟩ | ⟨g, cap, cur, h, _⟩
  · cases h; exact absurd rfl hA
  · cases h; exact ⟨g, rfl⟩

theorem elem_int : ElemOK Tryz.prog 37 3 1 8 := by
  refine ⟨Tryz.underlying37, ?_, by decide, by decide⟩
  have h : ((Tryz.prog.info? 3).bind fun i => i.zero.map fun z => (i.size, i.bytes, z.cells.size)) = some (1, 8, 1) := by kernel_rfl
  cases hi : Tryz.prog.info? 3 with
  | none => rw [hi] at h; cases h
  | some i =>
    rw [hi] at h
    cases hz : i.zero with
    | none => simp [hz] at h
    | some z => simp [hz] at h; exact ⟨i, z, rfl, hz, h.1, h.2.1, h.2.2⟩

theorem elem_pair : ElemOK Tryz.prog 23 78 2 16 := by
  refine ⟨Tryz.underlying23, ?_, by decide, by decide⟩
  have h : ((Tryz.prog.info? 78).bind fun i => i.zero.map fun z => (i.size, i.bytes, z.cells.size)) = some (2, 16, 2) := by kernel_rfl
  cases hi : Tryz.prog.info? 78 with
  | none => rw [hi] at h; cases h
  | some i =>
    rw [hi] at h
    cases hz : i.zero with
    | none => simp [hz] at h
    | some z => simp [hz] at h; exact ⟨i, z, rfl, hz, h.1, h.2.1, h.2.2⟩

theorem elem_blast : ElemOK Tryz.prog 26 39 3 24 := by
  refine ⟨Tryz.underlying26, ?_, by decide, by decide⟩
  have h : ((Tryz.prog.info? 39).bind fun i => i.zero.map fun z => (i.size, i.bytes, z.cells.size)) = some (3, 24, 3) := by kernel_rfl
  cases hi : Tryz.prog.info? 39 with
  | none => rw [hi] at h; cases h
  | some i =>
    rw [hi] at h
    cases hz : i.zero with
    | none => simp [hz] at h
    | some z => simp [hz] at h; exact ⟨i, z, rfl, hz, h.1, h.2.1, h.2.2⟩

theorem elem_rep : ElemOK Tryz.prog 60 82 2 16 := by
  refine ⟨Tryz.underlying60, ?_, by decide, by decide⟩
  have h : ((Tryz.prog.info? 82).bind fun i => i.zero.map fun z => (i.size, i.bytes, z.cells.size)) = some (2, 16, 2) := by kernel_rfl
  cases hi : Tryz.prog.info? 82 with
  | none => rw [hi] at h; cases h
  | some i =>
    rw [hi] at h
    cases hz : i.zero with
    | none => simp [hz] at h
    | some z => simp [hz] at h; exact ⟨i, z, rfl, hz, h.1, h.2.1, h.2.2⟩

theorem elem_cart : ElemOK Tryz.prog 27 63 2 48 := by
  refine ⟨Tryz.underlying27, ?_, by decide, by decide⟩
  have h : ((Tryz.prog.info? 63).bind fun i => i.zero.map fun z => (i.size, i.bytes, z.cells.size)) = some (2, 48, 2) := by kernel_rfl
  cases hi : Tryz.prog.info? 63 with
  | none => rw [hi] at h; cases h
  | some i =>
    rw [hi] at h
    cases hz : i.zero with
    | none => simp [hz] at h
    | some z => simp [hz] at h; exact ⟨i, z, rfl, hz, h.1, h.2.1, h.2.2⟩

set_option maxHeartbeats 1000000 in
theorem clone_int (A : Option Addr) (c : Nat) (l : List Int) (w : World) (hA : Ints w A l) (hl : l.length * 8 ≤ 140737488355328) :
    Calls Tryz.prog 57 #[.slice A l.length c] w fun e w' => ∃ A' c', e = .returned (.slice A' l.length c') ∧
      w'.ownsRow w.heap.size 3 1 (.slice A' l.length c') l.length (l.map (Value.int .i64)) ∧ (A' = none ↔ A = none) ∧ Ext w w' := by
  have q : ∀ (w : World) (a : Option Addr) (n c n' c' : Nat), (binOp .eql 37 (.slice a n c) (.slice none n' c')).run Tryz.prog w = .ok (.bool a.isNone) w := fun w a n c n' c' => Lib.run_eql_slice_nil w _ _ a n c n' c' Tryz.underlying37
  have H1 : Hid ((l.map (Value.int .i64)).length = l.length * 1) := hid (ints_len l)
  have H2 : Hid (Rd w A (l.map (Value.int .i64))) := hid hA
  have H3 := hid (ints_one l)
  cases A with
  | none =>
    have hnil : (l.map (Value.int .i64)) = [] := by
      rcases H2.out with h | ⟨b, off, h, _⟩
      · exact h
      · cases h
    have h0 : l.length = 0 := by have := H1.out; rw [hnil] at this; simp only [List.length_nil] at this; omega
    have H4 := hid hnil
    clear hnil
    have H5 := hid h0
    clear h0
    go_enter Tryz.func57, Tryz.ntmps57
    go_wp2
    go_ret
    refine ⟨none, 0, ret_of (by rw [H5.out]; rfl), ?_, by simp, Ext.refl w⟩
    rw [H4.out, H5.out]
    exact own_nil _ _ _ _
  | some ad =>
    go_enter Tryz.func57, Tryz.ntmps57
    go_wp2_with (at_builtin; refine wpList_append_rd _ rfl _ _ 37 rfl elem_int w.heap.size _ _ _ rfl (World.ownsRow_made w #[] 0 (Nat.le_refl _) (Nat.zero_le _) (by simp)) (some ad) l.length c (l.map (Value.int .i64)) rfl ?qc1 ?qc2 ?qc3 ?qc4 ?qc5 ?_)
    case qc1 => have := H1.out; omega
    case qc2 => exact Rd.ext H2.out (Ext.alloc (Ext.refl w) _)
    case qc3 => exact H3.out
    case qc4 => rw [Nat.zero_add]; exact hl
    case qc5 => simp
    intro A' c' w1 hown hbel hgrow hnil
    have HN := hid hnil
    clear hnil
    go_wp2
    go_ret
    refine ⟨A', c', ret_of (by simp), by simpa using hown, ?_, Below.trans (Below.alloc (Below.refl _ w) (Nat.le_refl _) _) hbel⟩
    simp [HN.out]

set_option maxHeartbeats 1000000 in
theorem clone_pair (A : Option Addr) (c : Nat) (l : List (Int × Int)) (w : World) (hA : Prs w A l) (hl : l.length * 16 ≤ 140737488355328) :
    Calls Tryz.prog 228 #[.slice A l.length c] w fun e w' => ∃ A' c', e = .returned (.slice A' l.length c') ∧
      w'.ownsRow w.heap.size 78 2 (.slice A' l.length c') l.length (layPr.rows l) ∧ (A' = none ↔ A = none) ∧ Ext w w' := by
  have q : ∀ (w : World) (a : Option Addr) (n c n' c' : Nat), (binOp .eql 23 (.slice a n c) (.slice none n' c')).run Tryz.prog w = .ok (.bool a.isNone) w := fun w a n c n' c' => Lib.run_eql_slice_nil w _ _ a n c n' c' Tryz.underlying23
  have H1 : Hid ((layPr.rows l).length = l.length * 2) := hid (layPr.rows_len l)
  have H2 : Hid (Rd w A (layPr.rows l)) := hid hA
  have H3 := hid (layPr.rows_one l)
  cases A with
  | none =>
    have hnil : (layPr.rows l) = [] := by
      rcases H2.out with h | ⟨b, off, h, _⟩
      · exact h
      · cases h
    have h0 : l.length = 0 := by have := H1.out; rw [hnil] at this; simp only [List.length_nil] at this; omega
    have H4 := hid hnil
    clear hnil
    have H5 := hid h0
    clear h0
    go_enter Tryz.func228, Tryz.ntmps228
    go_wp2
    go_ret
    refine ⟨none, 0, ret_of (by rw [H5.out]; rfl), ?_, by simp, Ext.refl w⟩
    rw [H4.out, H5.out]
    exact own_nil _ _ _ _
  | some ad =>
    go_enter Tryz.func228, Tryz.ntmps228
    go_wp2_with (at_builtin; refine wpList_append_rd _ rfl _ _ 23 rfl elem_pair w.heap.size _ _ _ rfl (World.ownsRow_made w #[] 0 (Nat.le_refl _) (Nat.zero_le _) (by simp)) (some ad) l.length c (layPr.rows l) rfl ?qc1 ?qc2 ?qc3 ?qc4 ?qc5 ?_)
    case qc1 => have := H1.out; omega
    case qc2 => exact Rd.ext H2.out (Ext.alloc (Ext.refl w) _)
    case qc3 => exact H3.out
    case qc4 => rw [Nat.zero_add]; exact hl
    case qc5 => simp
    intro A' c' w1 hown hbel hgrow hnil
    have HN := hid hnil
    clear hnil
    go_wp2
    go_ret
    refine ⟨A', c', ret_of (by simp), by simpa using hown, ?_, Below.trans (Below.alloc (Below.refl _ w) (Nat.le_refl _) _) hbel⟩
    simp [HN.out]

set_option maxHeartbeats 1000000 in
theorem clone_blast (A : Option Addr) (c : Nat) (l : List Bl) (w : World) (hA : Blasts w A l) (hl : l.length * 24 ≤ 140737488355328) :
    Calls Tryz.prog 229 #[.slice A l.length c] w fun e w' => ∃ A' c', e = .returned (.slice A' l.length c') ∧
      w'.ownsRow w.heap.size 39 3 (.slice A' l.length c') l.length (layBl.rows l) ∧ (A' = none ↔ A = none) ∧ Ext w w' := by
  have q : ∀ (w : World) (a : Option Addr) (n c n' c' : Nat), (binOp .eql 26 (.slice a n c) (.slice none n' c')).run Tryz.prog w = .ok (.bool a.isNone) w := fun w a n c n' c' => Lib.run_eql_slice_nil w _ _ a n c n' c' Tryz.underlying26
  have H1 : Hid ((layBl.rows l).length = l.length * 3) := hid (layBl.rows_len l)
  have H2 : Hid (Rd w A (layBl.rows l)) := hid hA
  have H3 := hid (layBl.rows_one l)
  cases A with
  | none =>
    have hnil : (layBl.rows l) = [] := by
      rcases H2.out with h | ⟨b, off, h, _⟩
      · exact h
      · cases h
    have h0 : l.length = 0 := by have := H1.out; rw [hnil] at this; simp only [List.length_nil] at this; omega
    have H4 := hid hnil
    clear hnil
    have H5 := hid h0
    clear h0
    go_enter Tryz.func229, Tryz.ntmps229
    go_wp2
    go_ret
    refine ⟨none, 0, ret_of (by rw [H5.out]; rfl), ?_, by simp, Ext.refl w⟩
    rw [H4.out, H5.out]
    exact own_nil _ _ _ _
  | some ad =>
    go_enter Tryz.func229, Tryz.ntmps229
    go_wp2_with (at_builtin; refine wpList_append_rd _ rfl _ _ 26 rfl elem_blast w.heap.size _ _ _ rfl (World.ownsRow_made w #[] 0 (Nat.le_refl _) (Nat.zero_le _) (by simp)) (some ad) l.length c (layBl.rows l) rfl ?qc1 ?qc2 ?qc3 ?qc4 ?qc5 ?_)
    case qc1 => have := H1.out; omega
    case qc2 => exact Rd.ext H2.out (Ext.alloc (Ext.refl w) _)
    case qc3 => exact H3.out
    case qc4 => rw [Nat.zero_add]; exact hl
    case qc5 => simp
    intro A' c' w1 hown hbel hgrow hnil
    have HN := hid hnil
    clear hnil
    go_wp2
    go_ret
    refine ⟨A', c', ret_of (by simp), by simpa using hown, ?_, Below.trans (Below.alloc (Below.refl _ w) (Nat.le_refl _) _) hbel⟩
    simp [HN.out]

set_option maxHeartbeats 1000000 in
theorem dup_int (A : Option Addr) (c : Nat) (l : List Int) (w : World) (hA : Ints w A l) (hl : l.length * 8 ≤ 140737488355328) :
    Calls Tryz.prog 112 #[.slice A l.length c] w fun e w' => ∃ g c', e = .returned (.slice (some ⟨g, 0, none⟩) l.length c') ∧ w'.ownsRow w.heap.size 3 1 (.slice (some ⟨g, 0, none⟩) l.length c') l.length (l.map (Value.int .i64)) ∧ Ext w w' := by
  obtain ⟨_, ⟨i, z, hi, hz, hsize, hby, hzs⟩, _, _⟩ := elem_int
  have hm : l.length ≤ maxLen := by simp only [maxLen]; omega
  have hb2 : i.bytes * l.length ≤ 281474976710656 := by rw [hby]; omega
  have H2 := hid hm
  have H3 := hid hb2
  have H4 := hid hi
  have H5 := hid hz
  have H6 := hid hsize
  have HL : Hid ((l.map (Value.int .i64)).length = l.length * 1) := hid (ints_len l)
  clear hm hb2 hi hz hsize hby hzs
  go_enter Tryz.func112, Tryz.ntmps112
  go_wp2_with (at_make; refine wpList_make_own _ rfl _ _ 37 rfl w.heap.size 3 i z 1 Tryz.underlying37 H4.out H5.out H6.out .i64 .i64 _ l.length rfl rfl rfl H3.out H2.out (Nat.le_refl _) ?_)
  intro w1 hown1 hgr1
  have hx1 : Ext w w1 := Ext.grown (Ext.refl w) hgr1 (fun k e => by cases e)
  have H1 := hid hown1
  have hsz := hx1.size
  clear hown1 hgr1
  have hb24 : (0 + l.length) * 8 ≤ 140737488355328 := by omega
  go_wp2_with (at_builtin; refine wpList_append_rd _ rfl _ _ 37 rfl elem_int w.heap.size _ 0 [] rfl H1.out A l.length c (l.map (Value.int .i64)) rfl HL.out (Rd.ext hA hx1) (ints_one l) hb24 hsz ?_)
  intro A5 c5 w5 hown5 hbel5 hgr5 hn5
  have hx5 : Ext w w5 := Ext.grown hx1 hgr5 (fun k e => (H1.out.lt k e).1)
  obtain ⟨g5, hg5⟩ := own_at hown5 hn5
  subst hg5
  have H7 := hid hown5
  have H8 := hid hx5
  clear hown5 hn5 hbel5 hgr5 hx5 hx1
  go_wp2
  go_ret
  exact ⟨g5, c5, rfl, H7.out, H8.out⟩

set_option maxHeartbeats 1000000 in
theorem dup_pair (A : Option Addr) (c : Nat) (l : List (Int × Int)) (w : World) (hA : Prs w A l) (hl : l.length * 16 ≤ 140737488355328) :
    Calls Tryz.prog 124 #[.slice A l.length c] w fun e w' => ∃ g c', e = .returned (.slice (some ⟨g, 0, none⟩) l.length c') ∧ w'.ownsRow w.heap.size 78 2 (.slice (some ⟨g, 0, none⟩) l.length c') l.length (layPr.rows l) ∧ Ext w w' := by
  obtain ⟨_, ⟨i, z, hi, hz, hsize, hby, hzs⟩, _, _⟩ := elem_pair
  have hm : l.length ≤ maxLen := by simp only [maxLen]; omega
  have hb2 : i.bytes * l.length ≤ 281474976710656 := by rw [hby]; omega
  have H2 := hid hm
  have H3 := hid hb2
  have H4 := hid hi
  have H5 := hid hz
  have H6 := hid hsize
  have HL : Hid ((layPr.rows l).length = l.length * 2) := hid (layPr.rows_len l)
  clear hm hb2 hi hz hsize hby hzs
  go_enter Tryz.func124, Tryz.ntmps124
  go_wp2_with (at_make; refine wpList_make_own _ rfl _ _ 23 rfl w.heap.size 78 i z 2 Tryz.underlying23 H4.out H5.out H6.out .i64 .i64 _ l.length rfl rfl rfl H3.out H2.out (Nat.le_refl _) ?_)
  intro w1 hown1 hgr1
  have hx1 : Ext w w1 := Ext.grown (Ext.refl w) hgr1 (fun k e => by cases e)
  have H1 := hid hown1
  have hsz := hx1.size
  clear hown1 hgr1
  have hb24 : (0 + l.length) * 16 ≤ 140737488355328 := by omega
  go_wp2_with (at_builtin; refine wpList_append_rd _ rfl _ _ 23 rfl elem_pair w.heap.size _ 0 [] rfl H1.out A l.length c (layPr.rows l) rfl HL.out (Rd.ext hA hx1) (layPr.rows_one l) hb24 hsz ?_)
  intro A5 c5 w5 hown5 hbel5 hgr5 hn5
  have hx5 : Ext w w5 := Ext.grown hx1 hgr5 (fun k e => (H1.out.lt k e).1)
  obtain ⟨g5, hg5⟩ := own_at hown5 hn5
  subst hg5
  have H7 := hid hown5
  have H8 := hid hx5
  clear hown5 hn5 hbel5 hgr5 hx5 hx1
  go_wp2
  go_ret
  exact ⟨g5, c5, rfl, H7.out, H8.out⟩

set_option maxHeartbeats 1000000 in
theorem dup_blast (A : Option Addr) (c : Nat) (l : List Bl) (w : World) (hA : Blasts w A l) (hl : l.length * 24 ≤ 140737488355328) :
    Calls Tryz.prog 133 #[.slice A l.length c] w fun e w' => ∃ g c', e = .returned (.slice (some ⟨g, 0, none⟩) l.length c') ∧ w'.ownsRow w.heap.size 39 3 (.slice (some ⟨g, 0, none⟩) l.length c') l.length (layBl.rows l) ∧ Ext w w' := by
  obtain ⟨_, ⟨i, z, hi, hz, hsize, hby, hzs⟩, _, _⟩ := elem_blast
  have hm : l.length ≤ maxLen := by simp only [maxLen]; omega
  have hb2 : i.bytes * l.length ≤ 281474976710656 := by rw [hby]; omega
  have H2 := hid hm
  have H3 := hid hb2
  have H4 := hid hi
  have H5 := hid hz
  have H6 := hid hsize
  have HL : Hid ((layBl.rows l).length = l.length * 3) := hid (layBl.rows_len l)
  clear hm hb2 hi hz hsize hby hzs
  go_enter Tryz.func133, Tryz.ntmps133
  go_wp2_with (at_make; refine wpList_make_own _ rfl _ _ 26 rfl w.heap.size 39 i z 3 Tryz.underlying26 H4.out H5.out H6.out .i64 .i64 _ l.length rfl rfl rfl H3.out H2.out (Nat.le_refl _) ?_)
  intro w1 hown1 hgr1
  have hx1 : Ext w w1 := Ext.grown (Ext.refl w) hgr1 (fun k e => by cases e)
  have H1 := hid hown1
  have hsz := hx1.size
  clear hown1 hgr1
  have hb24 : (0 + l.length) * 24 ≤ 140737488355328 := by omega
  go_wp2_with (at_builtin; refine wpList_append_rd _ rfl _ _ 26 rfl elem_blast w.heap.size _ 0 [] rfl H1.out A l.length c (layBl.rows l) rfl HL.out (Rd.ext hA hx1) (layBl.rows_one l) hb24 hsz ?_)
  intro A5 c5 w5 hown5 hbel5 hgr5 hn5
  have hx5 : Ext w w5 := Ext.grown hx1 hgr5 (fun k e => (H1.out.lt k e).1)
  obtain ⟨g5, hg5⟩ := own_at hown5 hn5
  subst hg5
  have H7 := hid hown5
  have H8 := hid hx5
  clear hown5 hn5 hbel5 hgr5 hx5 hx1
  go_wp2
  go_ret
  exact ⟨g5, c5, rfl, H7.out, H8.out⟩

set_option maxHeartbeats 1000000 in
theorem dup_rep (A : Option Addr) (c : Nat) (l : List Rp) (w : World) (hA : Reps w A l) (hl : l.length * 16 ≤ 140737488355328) :
    Calls Tryz.prog 134 #[.slice A l.length c] w fun e w' => ∃ g c', e = .returned (.slice (some ⟨g, 0, none⟩) l.length c') ∧ w'.ownsRow w.heap.size 82 2 (.slice (some ⟨g, 0, none⟩) l.length c') l.length (layRp.rows l) ∧ Ext w w' := by
  obtain ⟨_, ⟨i, z, hi, hz, hsize, hby, hzs⟩, _, _⟩ := elem_rep
  have hm : l.length ≤ maxLen := by simp only [maxLen]; omega
  have hb2 : i.bytes * l.length ≤ 281474976710656 := by rw [hby]; omega
  have H2 := hid hm
  have H3 := hid hb2
  have H4 := hid hi
  have H5 := hid hz
  have H6 := hid hsize
  have HL : Hid ((layRp.rows l).length = l.length * 2) := hid (layRp.rows_len l)
  clear hm hb2 hi hz hsize hby hzs
  go_enter Tryz.func134, Tryz.ntmps134
  go_wp2_with (at_make; refine wpList_make_own _ rfl _ _ 60 rfl w.heap.size 82 i z 2 Tryz.underlying60 H4.out H5.out H6.out .i64 .i64 _ l.length rfl rfl rfl H3.out H2.out (Nat.le_refl _) ?_)
  intro w1 hown1 hgr1
  have hx1 : Ext w w1 := Ext.grown (Ext.refl w) hgr1 (fun k e => by cases e)
  have H1 := hid hown1
  have hsz := hx1.size
  clear hown1 hgr1
  have hb24 : (0 + l.length) * 16 ≤ 140737488355328 := by omega
  go_wp2_with (at_builtin; refine wpList_append_rd _ rfl _ _ 60 rfl elem_rep w.heap.size _ 0 [] rfl H1.out A l.length c (layRp.rows l) rfl HL.out (Rd.ext hA hx1) (layRp.rows_one l) hb24 hsz ?_)
  intro A5 c5 w5 hown5 hbel5 hgr5 hn5
  have hx5 : Ext w w5 := Ext.grown hx1 hgr5 (fun k e => (H1.out.lt k e).1)
  obtain ⟨g5, hg5⟩ := own_at hown5 hn5
  subst hg5
  have H7 := hid hown5
  have H8 := hid hx5
  clear hown5 hn5 hbel5 hgr5 hx5 hx1
  go_wp2
  go_ret
  exact ⟨g5, c5, rfl, H7.out, H8.out⟩
end Go.Proofs.YtlonpgbapiemcaaGreat

namespace Go.Proofs.YtlonpgbapiemcaaGreat
open Go Go.RowKit Go.Shelf
set_option linter.unusedVariables false
set_option linter.unusedSimpArgs false

theorem isnan_any (x : Int) (w : World) : Calls Tryz.prog 225 #[.int .i64 x] w fun e w' => e = .returned (.bool false) ∧ w' = w := by
  go_enter Tryz.func225, Tryz.ntmps225
  go_wp2
  go_ret
  exact ⟨ret_of (bool_of (by simp)), rfl⟩
theorem less_any (x y : Int) (w : World) : Calls Tryz.prog 167 #[.int .i64 x, .int .i64 y] w fun e w' => e = .returned (.bool (decide (x < y))) ∧ w' = w := by
  go_enter Tryz.func167, Tryz.ntmps167
  go_wp2_with fail
  refine (isnan_any x w).mono ?_
  rintro e w1 ⟨rfl, rfl⟩
  go_wp2
  go_ret
  exact ⟨rfl, rfl⟩

/-- No number is greater than the next one. -/
def SortedA (l : List Int) : Prop := ∀ (n : Nat) (x y : Int), l[n]? = some x → l[n + 1]? = some y → x ≤ y
/-- No number is the next one. -/
def NextA (l : List Int) : Prop := ∀ (n : Nat) (x y : Int), l[n]? = some x → l[n + 1]? = some y → x ≠ y
theorem ascL_adj : ∀ {l : List Int}, ascL l = true ↔ SortedA l ∧ NextA l := by
  intro l
  induction l with
  | nil => simp [ascL, SortedA, NextA]
  | cons a l ih =>
    cases l with
    | nil => simp [ascL, SortedA, NextA]
    | cons b l =>
      simp only [ascL, Bool.and_eq_true, decide_eq_true_eq, ih]
      constructor
      · rintro ⟨h1, h2, h3⟩
        refine ⟨fun n x y hx hy => ?_, fun n x y hx hy => ?_⟩
        · cases n with
          | zero => simp at hx hy; omega
          | succ n => exact h2 n x y (by simpa using hx) (by simpa using hy)
        · cases n with
          | zero => simp at hx hy; omega
          | succ n => exact h3 n x y (by simpa using hx) (by simpa using hy)
      · rintro ⟨h2, h3⟩
        refine ⟨?_, fun n x y hx hy => h2 (n + 1) x y (by simpa using hx) (by simpa using hy), fun n x y hx hy => h3 (n + 1) x y (by simpa using hx) (by simpa using hy)⟩
        have e1 := h2 0 a b rfl rfl
        have e2 := h3 0 a b rfl rfl
        omega

def sortedB : List Int → Bool
  | [] => true
  | [_] => true
  | x :: y :: l => decide (x ≤ y) && sortedB (y :: l)
theorem sortedB_iff : ∀ {l : List Int}, sortedB l = true ↔ SortedA l := by
  intro l
  induction l with
  | nil => simp [sortedB, SortedA]
  | cons a l ih =>
    cases l with
    | nil => simp [sortedB, SortedA]
    | cons b l =>
      simp only [sortedB, Bool.and_eq_true, decide_eq_true_eq, ih]
      constructor
      · rintro ⟨h1, h2⟩ n x y hx hy
        cases n with
        | zero => simp at hx hy; omega
        | succ n => exact h2 n x y (by simpa using hx) (by simpa using hy)
      · intro h
        exact ⟨h 0 a b rfl rfl, fun n x y hx hy => h (n + 1) x y (by simpa using hx) (by simpa using hy)⟩
theorem sortedB_no {l : List Int} (h : ¬ SortedA l) : sortedB l = false := by
  rw [Bool.eq_false_iff]; exact fun e => h (sortedB_iff.1 e)

set_option maxRecDepth 100000 in
set_option maxHeartbeats 1000000 in
theorem issorted_any (A : Option Addr) (c0 : Nat) (l : List Int) (w : World) (hA : Ints w A l) (hl : l.length ≤ 1000000) :
    Calls Tryz.prog 85 #[.slice A l.length c0] w fun e w' => e = .returned (.bool (sortedB l)) ∧ Ext w w' := by
  go_enter Tryz.func85, Tryz.ntmps85
  go_wp2
  go_loopw [3] (fun i wr => ∃ k : Int, i = .int .i64 k ∧ -1 ≤ k ∧ k < (l.length : Int) ∧ Ext w wr ∧ Hid (∀ (n : Nat) (x y : Int), k ≤ (n : Int) → l[n]? = some x → l[n + 1]? = some y → x ≤ y)) (fun i _ => (intOf i + 1).toNat)
  case atStart => exact ⟨(l.length : Int) - 1, by go_num, by omega, by omega, Ext.refl _, fun n x y hn hx hy => by have := (List.getElem?_eq_some_iff.1 hy).1; omega⟩
  case round =>
    obtain ⟨k, rfl, hk1, hk2, hx, HS⟩ := hrel
    by_cases hlt : k > 0
    · obtain ⟨n, rfl⟩ : ∃ n : Nat, k = (n : Int) + 1 := ⟨(k - 1).toNat, by omega⟩
      obtain ⟨x, hxn⟩ := get_of_lt l n (by omega)
      obtain ⟨y, hyn⟩ := get_of_lt l (n + 1) (by omega)
      obtain ⟨b, off, rfl, e0⟩ := Ints.at_ (Ints.ext hA hx) hxn
      obtain ⟨b', off', e', e1⟩ := Ints.at_ (Ints.ext hA hx) hyn
      cases e'
      have FX : Hid (∀ w', Ext wr w' → w'.cell? ⟨b, off + n, none⟩ = some (.int .i64 x) ∧ w'.cell? ⟨b, off + (n + 1), none⟩ = some (.int .i64 y)) := fun w' h => ⟨h.cell e0, h.cell e1⟩
      have hi1 : (n : Int) + 1 < (l.length : Int) := hk2
      have hi2 : (n : Int) < (l.length : Int) := by omega
      have hw1 : IntKind.i64.wrap ((n : Int) + 1 - 1) = (n : Int) := by rw [show (n : Int) + 1 - 1 = n by omega]; exact IntWalk.i64_in _ ⟨by omega, by omega⟩
      have hw2 : IntKind.i64.wrap (n : Int) = (n : Int) := IntWalk.i64_in _ ⟨by omega, by omega⟩
      have ht : ((n : Int) + 1).toNat = n + 1 := by omega
      have hp1 : ¬ (n : Int) + 1 < 0 := by omega
      have HXN := hid hxn
      have HYN := hid hyn
      clear e0 e1 hxn hyn
      go_wp2
      refine wp_region_shut Ext (fun w' => Ext wr w') (fun | 9 => some (fun v _ => v = .bool (decide (y < x))) | _ => none) (by kernel_rfl) (by kernel_rfl) (fun _ _ h k => h.trans k) ?hT (Ext.drew (Ext.refl wr)) ?_
      case hT =>
        intro i R hR
        match i, hR with
        | 9, hR => cases hR; exact fun _ _ _ h _ => h
      refine wM_val ?ua0 rfl rfl Ext.refl (fun w' hD => ?ha0) (fun pha0 => ?na0)
      case ha0 =>
        obtain ⟨d0, d1⟩ := FX.out w' hD.1
        go_simp; rfl
      simp only [Act.put, List.setIfInBounds_toArray, List.set_cons_succ, List.set_cons_zero, Nat.reduceAdd]
      refine wM_val ?ua1 rfl rfl Ext.refl (fun w' hD => ?ha1) (fun pha1 => ?na1)
      case ha1 =>
        obtain ⟨d0, d1⟩ := FX.out w' hD.1
        go_simp; rfl
      simp only [Act.put, List.setIfInBounds_toArray, List.set_cons_succ, List.set_cons_zero, Nat.reduceAdd]
      refine wM_val ?ua2 rfl rfl Ext.refl (fun w' hD => ?ha2) (fun pha2 => ?na2)
      case ha2 =>
        obtain ⟨d0, d1⟩ := FX.out w' hD.1
        go_simp; rfl
      simp only [Act.put, List.setIfInBounds_toArray, List.set_cons_succ, List.set_cons_zero, Nat.reduceAdd]
      refine wM_val ?ua3 rfl rfl Ext.refl (fun w' hD => ?ha3) (fun pha3 => ?na3)
      case ha3 =>
        obtain ⟨d0, d1⟩ := FX.out w' hD.1
        go_simp; rfl
      simp only [Act.put, List.setIfInBounds_toArray, List.set_cons_succ, List.set_cons_zero, Nat.reduceAdd]
      refine wM_val ?ua4 rfl rfl Ext.refl (fun w' hD => ?ha4) (fun pha4 => ?na4)
      case ha4 =>
        obtain ⟨d0, d1⟩ := FX.out w' hD.1
        go_simp; rfl
      simp only [Act.put, List.setIfInBounds_toArray, List.set_cons_succ, List.set_cons_zero, Nat.reduceAdd]
      refine wM_val ?ua5 rfl rfl Ext.refl (fun w' hD => ?ha5) (fun pha5 => ?na5)
      case ha5 =>
        obtain ⟨d0, d1⟩ := FX.out w' hD.1
        go_simp; rfl
      simp only [Act.put, List.setIfInBounds_toArray, List.set_cons_succ, List.set_cons_zero, Nat.reduceAdd]
      refine wM_val ?ua6 rfl rfl Ext.refl (fun w' hD => ?ha6) (fun pha6 => ?na6)
      case ha6 =>
        obtain ⟨d0, d1⟩ := FX.out w' hD.1
        go_simp; rfl
      simp only [Act.put, List.setIfInBounds_toArray, List.set_cons_succ, List.set_cons_zero, Nat.reduceAdd]
      refine wM_val ?ua7 rfl rfl Ext.refl (fun w' hD => ?ha7) (fun pha7 => ?na7)
      case ha7 =>
        obtain ⟨d0, d1⟩ := FX.out w' hD.1
        go_simp; rfl
      simp only [Act.put, List.setIfInBounds_toArray, List.set_cons_succ, List.set_cons_zero, Nat.reduceAdd]
      refine wM_val ?ua8 rfl rfl Ext.refl (fun w' hD => ?ha8) (fun pha8 => ?na8)
      case ha8 =>
        obtain ⟨d0, d1⟩ := FX.out w' hD.1
        go_simp; rfl
      simp only [Act.put, List.setIfInBounds_toArray, List.set_cons_succ, List.set_cons_zero, Nat.reduceAdd]
      refine wM_op _ rfl rfl (opens_call ?fa9 ?ga9 (fun w' hD => ?ha9) (fun w' hD => ?ca9)) (fun v9 hv9 => ?na9)
      case ha9 => go_simp; constructor <;> rfl
      case ca9 =>
        refine (less_any y x w').mono ?_
        rintro e w2 ⟨rfl, rfl⟩
        exact ⟨_, rfl, Ext.refl _, rfl⟩
      obtain ⟨_, -, -, rfl⟩ := hv9
      simp only [Act.put, List.setIfInBounds_toArray, List.set_cons_succ, List.set_cons_zero, Nat.reduceAdd]
      refine wM_nil ?_
      intro w9 hw9 hF9
      have hx9 := hx.trans hw9
      clear hF9 FX
      by_cases hyx : y < x
      · have hq : decide (y < x) = true := by simpa using hyx
        have HN : Hid (¬ SortedA l) := fun h => by have := h n x y HXN.out HYN.out; omega
        rw [hq]
        clear hyx HS
        go_wp2
        go_ret
        exact ⟨ret_of (bool_of (sortedB_no HN.out).symm), hx9⟩
      · have hq : decide (y < x) = false := by simpa using hyx
        have HN : Hid (∀ (m : Nat) (x y : Int), (n : Int) ≤ (m : Int) → l[m]? = some x → l[m + 1]? = some y → x ≤ y) := fun m x' y' hm h1 h2 => by
          by_cases e : m = n
          · subst e
            have e1 := HXN.out
            have e2 := HYN.out
            rw [h1] at e1
            rw [h2] at e2
            cases e1; cases e2
            omega
          · exact HS.out m x' y' (by omega) h1 h2
        rw [hq]
        clear hyx HS
        go_wp2
        go_roundw
        case rel => exact ⟨(n : Int), by go_num, by omega, by omega, hx9, HN⟩
        case measure => simp [intOf]; omega
    · have hlt' : ¬ k > 0 := hlt
      have HN : Hid (SortedA l) := fun n x y h1 h2 => HS.out n x y (by omega) h1 h2
      clear HS
      go_wp2
      go_ret
      exact ⟨ret_of (bool_of (sortedB_iff.2 HN.out).symm), hx⟩
end Go.Proofs.YtlonpgbapiemcaaGreat

namespace Go.Proofs.YtlonpgbapiemcaaGreat
open Go Go.RowKit Go.Shelf
set_option linter.unusedVariables false
set_option linter.unusedSimpArgs false

theorem run_clear_own {P : Program} (w : World) (sT elem e : TypeId) (z : Value) {B n cap g sz : Nat} {zs : List Value} (hu : P.underlying sT = some (.slice elem)) (hz : ∀ w, (zeroValue elem).run P w = .ok z w) (hzs : z.cells.size = sz) (hz1 : ∀ v ∈ z.cells, v.oneCell' = true)
    (hown : w.ownsRow B e sz (.slice (some ⟨g, 0, none⟩) n cap) n zs) (i c : Nat) (hi : i < n) (hsz : 0 < sz) :
    ∃ w', (∀ ty, (Builtin.clear_ #[sT] ty #[.slice (some ⟨g, i * sz, none⟩) (n - i) c]).run P w = .ok (.tuple #[]) w') ∧ BelS (fun k => k = g) w w' ∧
      ∃ ys, ys.length = (n - i) * sz ∧ w'.ownsRow B e sz (.slice (some ⟨g, 0, none⟩) n cap) n (zs.take (i * sz) ++ ys) := by
  rcases hown.2 with ⟨h, _⟩ | ⟨g', cap', cur, h, hb, hg, hnc, hcm, hcs, htake⟩
  · cases h
  · cases h
    obtain ⟨k, hk⟩ : ∃ k, n - i = k + 1 := ⟨n - i - 1, by omega⟩
    have hlen : ((Builtin.zeroCells z.cells (n - i)).toList).length = (n - i) * sz := by rw [Array.length_toList, size_zeroCells, hzs]
    have hone : ∀ v ∈ (Builtin.zeroCells z.cells (n - i)).toList, v.oneCell' = true := by
      intro v hv
      unfold Builtin.zeroCells at hv
      simp only [Array.toList_map, List.mem_map] at hv
      obtain ⟨j, hj, rfl⟩ := hv
      have hlt : j % z.cells.size < z.cells.size := Nat.mod_lt _ (by omega)
      rw [getElem!_pos z.cells _ hlt]
      exact hz1 _ (Array.getElem_mem hlt)
    have hni : i * sz + (n - i) * sz = n * sz := by rw [← Nat.add_mul]; congr 1; omega
    have hNc : n * sz ≤ cap * sz := Nat.mul_le_mul_right sz hnc
    have hfit : i * sz + 0 + ((Builtin.zeroCells z.cells (n - i)).toList).length ≤ cur.size := by rw [hlen]; omega
    have hst := run_storeCells_at P g (i * sz) e _ 0 cur w hg hfit hone
    generalize hvs : (Builtin.zeroCells z.cells (n - i)).toList = vs at *
    refine ⟨w.setRow g (cur.toList.take (i * sz + 0) ++ vs ++ cur.toList.drop (i * sz + 0 + vs.length)).toArray, fun ty => ?_, ?_, vs, hlen, ⟨?_, .inr ⟨g, cap, _, rfl, hb, setRow_heap w g cur _ e (0, 0) hg, hnc, hcm, ?_, ?_⟩⟩⟩
    · rw [hk] at hvs ⊢
      simp [Builtin.clear_, run_underlying hu, hz, hvs, hst]
    · exact ⟨⟨rfl, rfl, rfl, by simp, fun k hk => absurd hk (Nat.not_lt_zero _)⟩, fun k _ hk => setRow_other w g k _ hk⟩
    · rw [List.length_append, List.length_take, hown.1, hlen, Nat.min_eq_left (by omega)]; exact hni
    · simp only [List.size_toArray, List.length_append, List.length_take, List.length_drop, Array.length_toList, hlen, Nat.add_zero]
      omega
    · simp only [Nat.add_zero]
      have hA : (cur.toList.take (i * sz)).length = i * sz := by rw [List.length_take, Array.length_toList]; omega
      have hX : (cur.toList.take (i * sz) ++ vs).length = n * sz := by rw [List.length_append, hA, hlen]; exact hni
      rw [← htake, List.take_take, Nat.min_eq_left (by omega), List.take_left' hX]

theorem zeroIc (w : World) : (zeroValue 3).run Tryz.prog w = .ok (.int .i64 0) w := by kernel_rfl
theorem set_int {l : List Int} {j : Nat} {x : Int} : (l.map (Value.int .i64)).set j (.int .i64 x) = (l.set j x).map (.int .i64) := by rw [List.map_set]

def CompactPost (w : World) (g : Nat) (l : List Int) (e : Ending) (w' : World) : Prop := ∃ A n c', e = .returned (.slice A n c') ∧ n ≤ l.length ∧ (n = l.length ↔ NextA l) ∧ BelS (fun k => k = g) w w'

set_option maxRecDepth 100000 in
set_option maxHeartbeats 2000000 in
theorem compact_any (g c B : Nat) (l : List Int) (w : World) (ho : w.ownsRow B 3 1 (.slice (some ⟨g, 0, none⟩) l.length c) l.length (l.map (.int .i64))) (hl : l.length ≤ 1000000) :
    Calls Tryz.prog 86 #[.slice (some ⟨g, 0, none⟩) l.length c] w (CompactPost w g l) := by

  have hcap : l.length ≤ c := by
    rcases ho.2 with ⟨h, _⟩ | ⟨g', cap', cur, h, _, _, hnc, _⟩
    · cases h
    · cases h; exact hnc
  go_enter Tryz.func86, Tryz.ntmps86
  by_cases h2 : l.length < 2
  · have h2' : (l.length : Int) < 2 := by omega
    go_wp2
    go_ret
    refine ⟨_, _, _, rfl, Nat.le_refl _, ⟨fun _ n x y h3 h4 => ?_, fun _ => rfl⟩, BelS.refl _ _⟩
    have := (List.getElem?_eq_some_iff.1 h4).1
    omega
  · have h2' : ¬ (l.length : Int) < 2 := by omega
    have H0 := hid ho
    clear ho
    go_wp2
    go_loopw [3] (fun i wr => ∃ k : Nat, i = .int .i64 k ∧ 1 ≤ k ∧ k ≤ l.length ∧ Ext w wr ∧ Hid (∀ (n : Nat) (x y : Int), n + 1 < k → l[n]? = some x → l[n + 1]? = some y → x ≠ y)) (fun i _ => l.length - (intOf i).toNat)
    case atStart => exact ⟨1, rfl, by omega, by omega, Ext.refl _, fun n x y h => by omega⟩
    case round =>
      obtain ⟨k, rfl, hk1, hk2, hx, HN⟩ := hrel
      by_cases hlt : k < l.length
      · have hlt' : (k : Int) < (l.length : Int) := by omega
        obtain ⟨j, rfl⟩ : ∃ j, k = j + 1 := ⟨k - 1, by omega⟩
        obtain ⟨x, hxn⟩ := get_of_lt l j (by omega)
        obtain ⟨y, hyn⟩ := get_of_lt l (j + 1) hlt
        have e0 := (own_below H0.out hx).cellAt j (by omega)
        have e1 := (own_below H0.out hx).cellAt (j + 1) (by omega)
        rw [List.getElem?_map, hxn, Option.map_some] at e0
        rw [List.getElem?_map, hyn, Option.map_some] at e1
        have HX := hid hxn
        have HY := hid hyn
        clear hxn hyn
        have hw1 : IntKind.i64.wrap ((j : Int) + 1 - 1) = (j : Int) := by rw [show (j : Int) + 1 - 1 = j by omega]; exact IntWalk.i64_in _ ⟨by omega, by omega⟩
        have hj1 : ((j + 1 : Nat) : Int) = (j : Int) + 1 := by omega
        by_cases hxy : y = x
        · subst hxy
          have HEQ : Hid (¬ NextA l) := fun h => h j y y HX.out HY.out rfl
          go_wp2
          go_quiet (fail)
          have hx1 : Ext w (wr.drewN nq) := hx.drewN nq
          have R1 := hid (own_below H0.out hx1)
          generalize wr.drewN nq = w1 at hx1 R1 ⊢
          clear e0 e1 H0 hx HX HY
          have hcj : (j : Int) + 1 ≤ (c : Int) := by omega
          have hA : ∃ A : Option Addr, A = (if c = j + 1 then some ⟨g, 0, none⟩ else some ⟨g, j + 1, none⟩) := ⟨_, rfl⟩
          have hcj2 : j + 1 < c := by omega
          go_wp2
          go_loopw [3, 5] (fun i k2 w2 => ∃ (a b : Nat) (m : List Int), i = .int .i64 a ∧ k2 = .int .i64 b ∧ 1 ≤ b ∧ b ≤ l.length - (j + 1) ∧ j + 1 ≤ a ∧ a ≤ j + b ∧ m.length = l.length ∧ Hid (w2.ownsRow B 3 1 (.slice (some ⟨g, 0, none⟩) l.length c) l.length (m.map (.int .i64))) ∧ BelS (fun k => k = g) w w2) (fun _ i _ => l.length - (intOf i).toNat)
          case atStart => exact ⟨j + 1, 1, l, by go_num, rfl, by omega, by omega, by omega, by omega, rfl, R1, Ext.belS hx1⟩
          case round =>
            obtain ⟨a, b, m, rfl, rfl, hb1, hb2, ha1, ha2, hm, R2, hbl⟩ := hrel
            by_cases hbt : b < l.length - (j + 1)
            · obtain ⟨d, rfl⟩ : ∃ d, b = d + 1 := ⟨b - 1, by omega⟩
              obtain ⟨x2, hx2⟩ := get_of_lt m (j + 1 + d) (by omega)
              obtain ⟨y2, hy2⟩ := get_of_lt m (j + 1 + (d + 1)) (by omega)
              obtain ⟨z2, hz2⟩ := get_of_lt m a (by omega)
              have f0 := R2.out.cellAt (j + 1 + d) (by omega)
              have f1 := R2.out.cellAt (j + 1 + (d + 1)) (by omega)
              have f2 := R2.out.cellAt a (by omega)
              have f3 := R2.out.frozenAt a
              rw [List.getElem?_map, hx2, Option.map_some] at f0
              rw [List.getElem?_map, hy2, Option.map_some] at f1
              rw [List.getElem?_map, hz2, Option.map_some] at f2
              have hdw : IntKind.i64.wrap ((d : Int) + 1 - 1) = (d : Int) := by rw [show (d : Int) + 1 - 1 = d by omega]; exact IntWalk.i64_in _ ⟨by omega, by omega⟩
              have hlt3 : (d : Int) + 1 < ((l.length - (j + 1) : Nat) : Int) := by omega
              have hlt4 : (d : Int) < ((l.length - (j + 1) : Nat) : Int) := by omega
              have hal : (a : Int) < (l.length : Int) := by omega
              clear hx2 hy2 hz2
              have B1 : ∀ n, BelS (fun k => k = g) w (wr.drewN n) := fun n => hbl.drewN n
              have B2 : ∀ n, BelS (fun k => k = g) w ((wr.drewN n).setCell ⟨g, a, none⟩ (.int .i64 y2)) := fun n => (hbl.drewN n).setCell _ _ rfl
              have R3 : Hid (∀ n, ((wr.drewN n).setCell ⟨g, a, none⟩ (.int .i64 y2)).ownsRow B 3 1 (.slice (some ⟨g, 0, none⟩) l.length c) l.length ((m.set a y2).map (.int .i64))) := fun n => by
                rw [← set_int]; exact (World.ownsRow.stored (own_below R2.out (Ext.drewN (Ext.refl _) n)) a (.int .i64 y2)).1
              by_cases hne : y2 = x2
              · subst hne
                go_wp2
                go_quiet (fail)
                go_wp2
                go_roundw
                case rel => exact ⟨a, d + 1 + 1, m, rfl, by go_num, by omega, by omega, by omega, by omega, hm, own_below R2.out (Ext.drewN (Ext.refl _) _), B1 _⟩
                case measure => simp [intOf]; omega
              · go_wp2
                go_quiet (fail)
                go_wp2
                go_roundw
                case rel => exact ⟨a + 1, d + 1 + 1, m.set a y2, by go_num, by go_num, by omega, by omega, by omega, by omega, by simpa using hm, R3.out _, B2 _⟩
                case measure => simp [intOf]; omega
            · have hbt' : ¬ (b : Int) < ((l.length - (j + 1) : Nat) : Int) := by omega
              obtain ⟨W9, hcl, hB9, -⟩ := run_clear_own (P := Tryz.prog) (sz := 1) wr 37 3 3 (.int .i64 0) Tryz.underlying37 zeroIc rfl (by intro v hv; simp [Value.cells] at hv; subst hv; rfl) R2.out a (c - a) (by omega) (by decide)
              have hal : (a : Int) ≤ (l.length : Int) := by omega
              have hac : ¬ c = a := by omega
              have hac2 : (a : Int) ≤ (c : Int) := by omega
              rw [Nat.mul_one] at hcl
              have HCL := hcl 0
              go_wp2
              trace_state
              go_ret
              exact ⟨_, a, _, rfl, by omega, ⟨fun h => by omega, fun h => absurd h HEQ.out⟩, hbl.trans hB9⟩
        · have hxy' : ¬ y = x := hxy
          go_wp2
          go_quiet (fail)
          go_wp2
          have HN2 : Hid (∀ (n : Nat) (x y : Int), n + 1 < j + 1 + 1 → l[n]? = some x → l[n + 1]? = some y → x ≠ y) := fun n x' y' h1 h3 h4 => by
            by_cases e : n = j
            · subst e
              have e1 := HX.out
              have e2 := HY.out
              rw [h3] at e1
              rw [h4] at e2
              cases e1; cases e2
              exact fun e => hxy e.symm
            · exact HN.out n x' y' (by omega) h3 h4
          go_roundw
          case rel => exact ⟨j + 1 + 1, by go_num, by omega, by omega, hx.drewN nq, HN2⟩
          case measure => simp [intOf]; omega
      · have hlt' : ¬ (k : Int) < (l.length : Int) := by omega
        have hke : k = l.length := by omega
        subst hke
        go_wp2
        go_ret
        exact ⟨_, _, _, rfl, Nat.le_refl _, ⟨fun _ n x y h3 h4 => HN.out n x y (by have := (List.getElem?_eq_some_iff.1 h4).1; omega) h3 h4, fun _ => rfl⟩, Ext.belS hx⟩
/-- Where no number is the next one, nothing is done. -/
theorem compact_next (g c B : Nat) (l : List Int) (w : World) (ho : w.ownsRow B 3 1 (.slice (some ⟨g, 0, none⟩) l.length c) l.length (l.map (.int .i64))) (hl : l.length ≤ 1000000) (hn : NextA l) :
    Calls Tryz.prog 86 #[.slice (some ⟨g, 0, none⟩) l.length c] w fun e w' => e = .returned (.slice (some ⟨g, 0, none⟩) l.length c) ∧ Ext w w' := by
  have HN := hid hn
  clear hn
  go_enter Tryz.func86, Tryz.ntmps86
  by_cases h2 : l.length < 2
  · have h2' : (l.length : Int) < 2 := by omega
    go_wp2
    go_ret
    exact ⟨rfl, Ext.refl _⟩
  · have h2' : ¬ (l.length : Int) < 2 := by omega
    have H0 := hid ho
    clear ho
    go_wp2
    go_loopw [3] (fun i wr => ∃ k : Nat, i = .int .i64 k ∧ 1 ≤ k ∧ k ≤ l.length ∧ Ext w wr) (fun i _ => l.length - (intOf i).toNat)
    case atStart => exact ⟨1, rfl, by omega, by omega, Ext.refl _⟩
    case round =>
      obtain ⟨k, rfl, hk1, hk2, hx⟩ := hrel
      by_cases hlt : k < l.length
      · have hlt' : (k : Int) < (l.length : Int) := by omega
        obtain ⟨j, rfl⟩ : ∃ j, k = j + 1 := ⟨k - 1, by omega⟩
        obtain ⟨x, hxn⟩ := get_of_lt l j (by omega)
        obtain ⟨y, hyn⟩ := get_of_lt l (j + 1) hlt
        have e0 := (own_below H0.out hx).cellAt j (by omega)
        have e1 := (own_below H0.out hx).cellAt (j + 1) (by omega)
        rw [List.getElem?_map, hxn, Option.map_some] at e0
        rw [List.getElem?_map, hyn, Option.map_some] at e1
        have hxy : ¬ y = x := fun e => HN.out j x y hxn hyn e.symm
        clear hxn hyn
        have hw1 : IntKind.i64.wrap ((j : Int) + 1 - 1) = (j : Int) := by rw [show (j : Int) + 1 - 1 = j by omega]; exact IntWalk.i64_in _ ⟨by omega, by omega⟩
        go_wp2
        go_quiet (fail)
        go_wp2
        go_roundw
        case rel => exact ⟨j + 1 + 1, by go_num, by omega, by omega, hx.drewN nq⟩
        case measure => simp [intOf]; omega
      · have hlt' : ¬ (k : Int) < (l.length : Int) := by omega
        go_wp2
        go_ret
        exact ⟨rfl, hx⟩
def CompactNot (w : World) (g : Nat) (l : List Int) (e : Ending) (w' : World) : Prop := ∃ A n c', e = .returned (.slice A n c') ∧ n < l.length ∧ BelS (fun k => k = g) w w'
theorem compact_not (g c B : Nat) (l : List Int) (w : World) (ho : w.ownsRow B 3 1 (.slice (some ⟨g, 0, none⟩) l.length c) l.length (l.map (.int .i64))) (hl : l.length ≤ 1000000) (hn : ¬ NextA l) :
    Calls Tryz.prog 86 #[.slice (some ⟨g, 0, none⟩) l.length c] w (CompactNot w g l) :=
  (compact_any g c B l w ho hl).mono fun _ _ ⟨A, n, c', e, h1, h2, h3⟩ => ⟨A, n, c', e, Nat.lt_of_le_of_ne h1 (fun h => hn (h2.1 h)), h3⟩
end Go.Proofs.YtlonpgbapiemcaaGreat

namespace Go.Proofs.YtlonpgbapiemcaaGreat
open Go Go.RowKit Go.Shelf
set_option linter.unusedVariables false
set_option linter.unusedSimpArgs false

theorem in_any (n lo hi : Int) (w : World) : Calls Tryz.prog 63 #[.int .i64 n, .int .i64 lo, .int .i64 hi] w fun e w' => e = .returned (.bool (inB n lo hi)) ∧ w = w' := by
  by_cases h1 : lo ≤ n
  · by_cases h2 : n ≤ hi
    · have H := hid (show inB n lo hi = true by simp [inB, h1, h2])
      go_enter Tryz.func63, Tryz.ntmps63
      go_wp2
      go_ret
      exact ⟨ret_of (bool_of H.out.symm), rfl⟩
    · have H := hid (show inB n lo hi = false by simp [inB, h2])
      go_enter Tryz.func63, Tryz.ntmps63
      go_wp2
      go_ret
      exact ⟨ret_of (bool_of H.out.symm), rfl⟩
  · have H := hid (show inB n lo hi = false by simp only [inB, h1]; simp)
    go_enter Tryz.func63, Tryz.ntmps63
    go_wp2
    go_ret
    exact ⟨ret_of (bool_of H.out.symm), rfl⟩

theorem place_any (v : Value) (f : Fg) (n : Int) (w : World) (hf : FgR w v f) (h1 : 1 ≤ f.pl) (h8 : f.pl ≤ 8) :
    Calls Tryz.prog 44 #[v, .int .i64 n] w fun e w' => e = .returned (.bool (plOK f n)) ∧ Ext w w' := by
  obtain ⟨A1, c1, A2, c2, A3, c3, rfl, -⟩ := hf
  unfold fval
  go_enter Tryz.func44, Tryz.ntmps44
  go_wp2_with fail
  refine (in_any _ _ _ _).mono ?_
  rintro e w1 ⟨rfl, rfl⟩
  go_wp2
  go_ret
  exact ⟨rfl, Ext.alloc (Ext.refl w) _⟩
theorem minute_any (v : Value) (f : Fg) (n : Int) (w : World) (hf : FgR w v f) :
    Calls Tryz.prog 68 #[v, .int .i64 n] w fun e w' => e = .returned (.bool (miOK f n)) ∧ Ext w w' := by
  obtain ⟨A1, c1, A2, c2, A3, c3, rfl, -⟩ := hf
  unfold fval
  go_enter Tryz.func68, Tryz.ntmps68
  go_wp2_with fail
  refine (in_any _ _ _ _).mono ?_
  rintro e w1 ⟨rfl, rfl⟩
  go_wp2
  go_ret
  exact ⟨rfl, Ext.alloc (Ext.refl w) _⟩
theorem blast_any (v : Value) (f : Fg) (n : Int) (w : World) (hf : FgR w v f) (hl : f.bl.length ≤ 9223372036854775807) :
    Calls Tryz.prog 45 #[v, .int .i64 n] w fun e w' => e = .returned (.bool (blOK f n)) ∧ Ext w w' := by
  obtain ⟨A1, c1, A2, c2, A3, c3, rfl, -⟩ := hf
  unfold fval
  go_enter Tryz.func45, Tryz.ntmps45
  go_wp2_with fail
  refine (in_any _ _ _ _).mono ?_
  rintro e w1 ⟨rfl, rfl⟩
  go_wp2
  go_ret
  exact ⟨rfl, Ext.alloc (Ext.refl w) _⟩
theorem cart_any (v : Value) (f : Fg) (n : Int) (w : World) (hf : FgR w v f) (hl : f.ct.length ≤ 9223372036854775807) :
    Calls Tryz.prog 153 #[v, .int .i64 n] w fun e w' => e = .returned (.bool (ctOK f n)) ∧ Ext w w' := by
  obtain ⟨A1, c1, A2, c2, A3, c3, rfl, -⟩ := hf
  unfold fval
  go_enter Tryz.func153, Tryz.ntmps153
  go_wp2_with fail
  refine (in_any _ _ _ _).mono ?_
  rintro e w1 ⟨rfl, rfl⟩
  go_wp2
  go_ret
  exact ⟨rfl, Ext.alloc (Ext.refl w) _⟩
/-- The bound method f.place as a function value. -/
theorem place_fn (v : Value) (f : Fg) (w : World) (hf : FgR w v f) (h1 : 1 ≤ f.pl) (h8 : f.pl ≤ 8) : FnP Tryz.prog (.func (.func 44) #[v] #[]) w IntR anyx (plOK f) := by
  refine ⟨_, _, _, rfl, enters_of Tryz.func44 (by kernel_rfl) rfl, fun x v2 W _ hW hR => ?_⟩
  obtain rfl : v2 = .int .i64 x := hR
  exact place_any v f x W (hf.kc hW) h1 h8

/-! The closures of Check -/
theorem check1_fn (w : World) : FnP Tryz.prog (.func (.func 65) #[] #[]) w CtR (fun x => x.rp.length ≤ 9223372036854775807) (fun c => decide (c.rp.length ≤ 8)) := by
  refine ⟨_, _, _, rfl, enters_of Tryz.func65 (by kernel_rfl) rfl, fun x v W hs hW hR => ?_⟩
  obtain ⟨A, c, A', c', rfl, -⟩ := hR
  show Calls _ _ #[_] _ _
  by_cases hq : x.rp.length ≤ 8
  · have hq' : (x.rp.length : Int) ≤ 8 := by omega
    have H := hid hq
    clear hq
    go_enter Tryz.func65, Tryz.ntmps65
    go_wp2
    go_ret
    exact ⟨ret_of (bool_of (by simp [H.out, hq'])), Ext.alloc (Ext.refl W) _⟩
  · have hq' : ¬ (x.rp.length : Int) ≤ 8 := by omega
    have H := hid hq
    clear hq
    go_enter Tryz.func65, Tryz.ntmps65
    go_wp2
    go_ret
    exact ⟨ret_of (bool_of (by simp [H.out, hq'])), Ext.alloc (Ext.refl W) _⟩
theorem check9_fn (w : World) : FnP Tryz.prog (.func (.func 83) #[] #[]) w CtR (fun x => x.st.length ≤ 9223372036854775807) (fun c => decide (0 < c.st.length)) := by
  refine ⟨_, _, _, rfl, enters_of Tryz.func83 (by kernel_rfl) rfl, fun x v W hs hW hR => ?_⟩
  obtain ⟨A, c, A', c', rfl, -⟩ := hR
  show Calls _ _ #[_] _ _
  by_cases hq : 0 < x.st.length
  · have hq' : (0 : Int) < (x.st.length : Int) := by omega
    have H := hid hq
    clear hq
    go_enter Tryz.func83, Tryz.ntmps83
    go_wp2
    go_ret
    exact ⟨ret_of (bool_of (by simp [H.out, hq'])), Ext.alloc (Ext.refl W) _⟩
  · have hq' : ¬ (0 : Int) < (x.st.length : Int) := by omega
    have H := hid hq
    clear hq
    go_enter Tryz.func83, Tryz.ntmps83
    go_wp2
    go_ret
    exact ⟨ret_of (bool_of (by simp [H.out, hq'])), Ext.alloc (Ext.refl W) _⟩
theorem check6_fn (w : World) : FnP Tryz.prog (.func (.func 76) #[] #[]) w PrR anyx (fun t => t.1 != t.2) := by
  refine ⟨_, _, _, rfl, enters_of Tryz.func76 (by kernel_rfl) rfl, fun x v W hs hW hR => ?_⟩
  obtain rfl : v = pval x := hR
  unfold pval
  show Calls _ _ #[_] _ _
  go_enter Tryz.func76, Tryz.ntmps76
  go_wp2
  go_ret
  exact ⟨rfl, Ext.alloc (Ext.refl W) _⟩
/-- The cells of a fog in block B. -/
def FCell (w : World) (B : Nat) (s : Ads) (f : Fg) : Prop := w.cell? ⟨B, 0, none⟩ = some (.int .i64 f.pl) ∧ w.cell? ⟨B, 1, none⟩ = some (.int .i64 f.mi) ∧ w.cell? ⟨B, 2, none⟩ = some (.slice s.a1 f.tr.length s.c1) ∧
  w.cell? ⟨B, 3, none⟩ = some (.slice s.a2 f.bl.length s.c2) ∧ w.cell? ⟨B, 4, none⟩ = some (.slice s.a3 f.ct.length s.c3)
theorem FCell.kc {w w' : World} {B : Nat} {s : Ads} {f : Fg} (h : FCell w B s f) (hx : Kc w w') : FCell w' B s f := ⟨hx.cell h.1, hx.cell h.2.1, hx.cell h.2.2.1, hx.cell h.2.2.2.1, hx.cell h.2.2.2.2⟩
theorem FCell.ext {w w' : World} {B : Nat} {s : Ads} {f : Fg} (h : FCell w B s f) (hx : Ext w w') : FCell w' B s f := h.kc hx.kc
theorem FCell.drew {w : World} {B : Nat} {s : Ads} {f : Fg} (h : FCell w B s f) : FCell w.drew B s f := h.ext (Ext.drew (Ext.refl w))

theorem check2_fn (w : World) (B : Nat) (s : Ads) (f : Fg) (hb : FCell w B s f) (hr : FRows w s f) :
    FnP Tryz.prog (.func (.func 67) #[] #[.pointer (some ⟨B, 0, none⟩)]) w BlR anyx (fun b => inB b.lo 0 7 && miOK f b.mi) := by
  refine ⟨_, _, _, rfl, enters_of Tryz.func67 (by kernel_rfl) rfl, fun x v W _ hW hR => ?_⟩
  obtain rfl : v = x.val := hR
  unfold Bl.val
  show Calls _ _ #[_, _] _ _
  have hr' := hr.kc hW
  have FX : ∀ o, FCell (W.alloc o) B s f := fun o => hb.kc (hW.alloc o)
  obtain ⟨A1, c1, A2, c2, A3, c3⟩ := s
  have e0 := fun o => (FX o).1
  have e1 := fun o => (FX o).2.1
  have e2 := fun o => (FX o).2.2.1
  have e3 := fun o => (FX o).2.2.2.1
  have e4 := fun o => (FX o).2.2.2.2
  cases hq : inB x.lo 0 7
  · go_enter Tryz.func67, Tryz.ntmps67
    go_wp2_with fail
    refine (in_any _ _ _ _).mono ?_
    rintro e w1 ⟨rfl, rfl⟩
    rw [hq]
    go_wp2
    go_ret
    exact ⟨ret_of (by simp [hq]), Ext.alloc (Ext.refl W) _⟩
  · go_enter Tryz.func67, Tryz.ntmps67
    go_wp2_with fail
    refine (in_any _ _ _ _).mono ?_
    rintro e w1 ⟨rfl, rfl⟩
    rw [hq]
    go_wp2_with fail
    refine (minute_any _ f _ _ (FRows.fg (hr'.ext (Ext.alloc (Ext.refl W) _)))).mono ?_
    rintro e w1 ⟨rfl, hb1⟩
    go_wp2
    go_ret
    exact ⟨ret_of (by simp [hq]), (Ext.alloc (Ext.refl W) _).trans hb1⟩
theorem check4_fn (v : Value) (f : Fg) (w : World) (B : Nat) (hf : FgR w v f) (h1 : 1 ≤ f.pl) (h8 : f.pl ≤ 8) (hB : w.cell? ⟨B, 0, none⟩ = some (.func (.func 44) #[v] #[])) :
    FnP Tryz.prog (.func (.func 71) #[] #[.pointer (some ⟨B, 0, none⟩)]) w BlR anyx (fun b => plOK f b.pl) := by
  refine ⟨_, _, _, rfl, enters_of Tryz.func71 (by kernel_rfl) rfl, fun x v2 W _ hW hR => ?_⟩
  obtain rfl : v2 = x.val := hR
  unfold Bl.val
  show Calls _ _ #[_, _] _ _
  have hcell : ∀ o, (W.alloc o).cell? ⟨B, 0, none⟩ = some (.func (.func 44) #[v] #[]) := fun o => (hW.alloc o).cell hB
  have hf2 := hf.kc hW
  go_enter Tryz.func71, Tryz.ntmps71
  go_wp2_with fail
  refine (place_any v f _ _ (hf2.ext (Ext.alloc (Ext.refl W) _)) h1 h8).mono ?_
  rintro e w1 ⟨rfl, hb1⟩
  go_wp2
  go_ret
  exact ⟨rfl, (Ext.alloc (Ext.refl W) _).trans hb1⟩
theorem check3_fn (v : Value) (f : Fg) (w : World) (B : Nat) (hf : FgR w v f) (h1 : 1 ≤ f.pl) (h8 : f.pl ≤ 8) (hB : w.cell? ⟨B, 0, none⟩ = some (.func (.func 44) #[v] #[])) :
    FnP Tryz.prog (.func (.func 70) #[] #[.pointer (some ⟨B, 0, none⟩)]) w PrR anyx (fun t => plOK f t.1 && plOK f t.2) := by
  refine ⟨_, _, _, rfl, enters_of Tryz.func70 (by kernel_rfl) rfl, fun x v2 W _ hW hR => ?_⟩
  obtain rfl : v2 = pval x := hR
  unfold pval
  show Calls _ _ #[_, _] _ _
  have hcell : ∀ o, (W.alloc o).cell? ⟨B, 0, none⟩ = some (.func (.func 44) #[v] #[]) := fun o => (hW.alloc o).cell hB
  have hf2 := hf.kc hW
  go_enter Tryz.func70, Tryz.ntmps70
  go_wp2_with fail
  refine (place_any v f _ _ (hf2.ext (Ext.alloc (Ext.refl W) _)) h1 h8).mono ?_
  rintro e w1 ⟨rfl, hb1⟩
  have hx1 := (hW.alloc _).trans hb1.kc
  have hcell1 := hx1.cell hB
  have k0 := hb1.cell (p := ⟨W.heap.size, 0, none⟩) (u := .int .i64 x.1) (by simp [go_sem])
  have k1 := hb1.cell (p := ⟨W.heap.size, 1, none⟩) (u := .int .i64 x.2) (by simp [go_sem])
  cases hq : plOK f x.1
  · go_wp2
    go_ret
    exact ⟨ret_of (by simp [hq]), (Ext.alloc (Ext.refl W) _).trans hb1⟩
  · go_wp2_with fail
    refine (place_any v f _ _ (hf.kc hx1) h1 h8).mono ?_
    rintro e w2 ⟨rfl, hb2⟩
    go_wp2
    go_ret
    exact ⟨ret_of (by simp [hq]), ((Ext.alloc (Ext.refl W) _).trans hb1).trans hb2⟩
theorem check51_fn (w : World) (B : Nat) (s : Ads) (f : Fg) (hb : FCell w B s f) (hr : FRows w s f) (hl : f.bl.length ≤ 9223372036854775807) :
    FnP Tryz.prog (.func (.func 75) #[] #[.pointer (some ⟨B, 0, none⟩)]) w RpR anyx (fun r => blOK f r.bl) := by
  refine ⟨_, _, _, rfl, enters_of Tryz.func75 (by kernel_rfl) rfl, fun x v W _ hW hR => ?_⟩
  obtain rfl : v = x.val := hR
  unfold Rp.val
  show Calls _ _ #[_, _] _ _
  have hr' := hr.kc hW
  have FX : ∀ o, FCell (W.alloc o) B s f := fun o => hb.kc (hW.alloc o)
  obtain ⟨A1, c1, A2, c2, A3, c3⟩ := s
  have e0 := fun o => (FX o).1
  have e1 := fun o => (FX o).2.1
  have e2 := fun o => (FX o).2.2.1
  have e3 := fun o => (FX o).2.2.2.1
  have e4 := fun o => (FX o).2.2.2.2
  go_enter Tryz.func75, Tryz.ntmps75
  go_wp2_with fail
  refine (blast_any _ f _ _ (FRows.fg (hr'.ext (Ext.alloc (Ext.refl W) _))) hl).mono ?_
  rintro e w1 ⟨rfl, hb1⟩
  go_wp2
  go_ret
  exact ⟨rfl, (Ext.alloc (Ext.refl W) _).trans hb1⟩
theorem check5_fn (v : Value) (w : World) (P B : Nat) (s : Ads) (f : Fg) (hb : FCell w B s f) (hr : FRows w s f) (hf : FgR w v f) (h1 : 1 ≤ f.pl) (h8 : f.pl ≤ 8) (hl : f.bl.length ≤ 9223372036854775807) (hP : w.cell? ⟨P, 0, none⟩ = some (.func (.func 44) #[v] #[])) :
    FnP Tryz.prog (.func (.func 72) #[] #[.pointer (some ⟨P, 0, none⟩), .pointer (some ⟨B, 0, none⟩)]) w CtR (fun x => x.st.length ≤ 9223372036854775807 ∧ x.rp.length ≤ 9223372036854775807) (fun c => c.st.all (plOK f) && c.rp.all fun r => blOK f r.bl) := by
  refine ⟨_, _, _, rfl, enters_of Tryz.func72 (by kernel_rfl) rfl, fun x v2 W hs hW hR => ?_⟩
  obtain ⟨A, c, A', c', rfl, hS, hRp, hk1, hk2⟩ := hR
  show Calls _ _ #[_, _, _] _ _
  have hcell : ∀ o, (W.alloc o).cell? ⟨P, 0, none⟩ = some (.func (.func 44) #[v] #[]) := fun o => (hW.alloc o).cell hP
  have hx0 : Ext W (W.alloc (.cells #[.slice A x.st.length c, .slice A' x.rp.length c'] 63)) := Ext.alloc (Ext.refl W) _
  go_enter Tryz.func72, Tryz.ntmps72
  go_wp2_with fail
  refine (every_int A c x.st _ anyx _ _ (hS.ext hx0) hs.1 (anyx_all _) (place_fn v f _ (hf.kc (hW.trans hx0.kc)) h1 h8)).mono ?_
  rintro e w1 ⟨rfl, hb1⟩
  have k1 := hb1.cell (p := ⟨W.heap.size, 1, none⟩) (u := .slice A' x.rp.length c') (by simp [go_sem])
  have hkc1 : Kc w w1 := (hW.trans hx0.kc).trans hb1.kc
  cases hq : x.st.all (plOK f)
  · go_wp2
    go_ret
    exact ⟨ret_of (by simp only [hq, Bool.false_and]; rfl), hx0.trans hb1⟩
  · go_wp2_with fail
    refine (every_rep A' c' x.rp _ anyx _ _ ((hRp.ext hx0).ext hb1) hs.2 (anyx_all _) (check51_fn _ B s f (hb.kc hkc1) (hr.kc hkc1) hl)).mono ?_
    rintro e w2 ⟨rfl, hb2⟩
    go_wp2
    go_ret
    exact ⟨ret_of (by simp only [hq, Bool.true_and]; rfl), (hx0.trans hb1).trans hb2⟩
end Go.Proofs.YtlonpgbapiemcaaGreat

namespace Go.Proofs.YtlonpgbapiemcaaGreat
open Go Go.RowKit Go.Shelf
set_option linter.unusedVariables false
set_option linter.unusedSimpArgs false

/-- A function value without anything captured that answers p of two values. -/
def FnP2 {α : Type} (P : Program) (g : Nat) (w : World) (R : World → Value → α → Prop) (S : α → Prop) (p : α → α → Bool) : Prop :=
  (∀ args W, (callFunc g args).run P W = .ok (.enter g args) W) ∧
    ∀ (x y : α) (v u : Value) (W : World), S x → S y → Kc w W → R W v x → R W u y → Calls P g #[v, u] W fun e W' => e = .returned (.bool (p x y)) ∧ Ext W W'
theorem FnP2.kc {α : Type} {P : Program} {g : Nat} {w w' : World} {R : World → Value → α → Prop} {S : α → Prop} {p : α → α → Bool} (h : FnP2 P g w R S p) (hx : Kc w w') : FnP2 P g w' R S p :=
  ⟨h.1, fun x y v u W hs ht hW => h.2 x y v u W hs ht (hx.trans hW)⟩
theorem againL_drop {α : Type} (same : α → α → Bool) (l : List α) (k : Nat) (x : α) (h : l[k]? = some x) : againL same (l.take k) (l.drop k) = ((l.take k).any (same x) || againL same (l.take (k + 1)) (l.drop (k + 1))) := by
  have hk : k < l.length := (List.getElem?_eq_some_iff.1 h).1
  rw [List.drop_eq_getElem_cons hk, (List.getElem?_eq_some_iff.1 h).2]
  show ((l.take k).any (same x) || againL same (l.take k ++ [x]) (l.drop (k + 1))) = _
  rw [List.take_add_one, h]
  rfl
theorem againL_end {α : Type} (same : α → α → Bool) (l : List α) (k : Nat) (h : l.length ≤ k) (m : List α) : againL same m (l.drop k) = false := by
  rw [List.drop_eq_nil_of_le h]; rfl
theorem Rd.take {w : World} {A : Option Addr} {xs ys : List Value} (h : Rd w A (xs ++ ys)) : Rd w A xs := h.pre_
theorem Rows.take {α : Type} {F : Lay α} {w : World} {A : Option Addr} {l : List α} (h : Rows F w A l) (k : Nat) : Rows F w A (l.take k) := by
  have e : l = l.take k ++ l.drop k := (List.take_append_drop k l).symm
  unfold Rows at *
  rw [e, F.rows_app] at h
  exact h.pre_
theorem Ints.take {w : World} {A : Option Addr} {l : List Int} (h : Ints w A l) (k : Nat) : Ints w A (l.take k) := by
  have e : l = l.take k ++ l.drop k := (List.take_append_drop k l).symm
  unfold Ints at *
  rw [e, List.map_append] at h
  exact h.pre_

/-- The cells of an element in block X. -/
def Cellpair (w : World) (X : Nat) (x : (Int × Int)) : Prop := w.cell? ⟨X, 0, none⟩ = some (.int .i64 x.1) ∧ w.cell? ⟨X, 1, none⟩ = some (.int .i64 x.2)
set_option maxHeartbeats 400000 in
theorem again1_pair (w : World) (Sb Xb : Nat) (g : Nat) (x : (Int × Int)) (S : (Int × Int) → Prop) (p : (Int × Int) → (Int × Int) → Bool) (hS : S x) (hs : w.cell? ⟨Sb, 0, none⟩ = some (.func (.func g) #[] #[])) (hx : Cellpair w Xb x) (hp : FnP2 Tryz.prog g w PrR S p) :
    FnP Tryz.prog (.func (.func 165) #[] #[.pointer (some ⟨Sb, 0, none⟩), .pointer (some ⟨Xb, 0, none⟩)]) w PrR S (p x) := by
  refine ⟨_, _, _, rfl, enters_of Tryz.func165 (by kernel_rfl) rfl, fun y v W hs2 hW hR => ?_⟩
  obtain rfl : v = pval y := hR
  unfold pval
  show Calls _ _ #[_, _, _] _ _
  have hS1 : W.cell? ⟨Sb, 0, none⟩ = some (.func (.func g) #[] #[]) := hW.cell hs
  have hSo : ∀ o, (W.alloc o).cell? ⟨Sb, 0, none⟩ = some (.func (.func g) #[] #[]) := fun o => (hW.alloc o).cell hs
  obtain ⟨x0, x1⟩ := hx
  have hX0 := hW.cell x0
  have hXo0 := fun o => (hW.alloc o).cell x0
  have hX1 := hW.cell x1
  have hXo1 := fun o => (hW.alloc o).cell x1
  obtain ⟨eg, hcall⟩ := hp
  have HC := hid hcall
  have HS1 := hid hS
  have HS2 := hid hs2
  clear hcall hS hs2
  go_enter Tryz.func165, Tryz.ntmps165
  go_wp2_with fail
  refine (HC.out x y _ _ _ HS1.out HS2.out (hW.alloc _) rfl rfl).mono ?_
  rintro e w1 ⟨rfl, hb1⟩
  go_wp2
  go_ret
  exact ⟨rfl, (Ext.alloc (Ext.refl W) _).trans hb1⟩

set_option maxHeartbeats 1000000 in
theorem again_pair (A : Option Addr) (c : Nat) (l : List (Int × Int)) (g : Nat) (S : (Int × Int) → Prop) (p : (Int × Int) → (Int × Int) → Bool) (w : World) (hA : Prs w A l) (hl : l.length ≤ 9223372036854775807) (hS : ∀ x, x ∈ l → S x) (hp : FnP2 Tryz.prog g w PrR S p) (hc : l.length ≤ c) :
    Calls Tryz.prog 77 #[.slice A l.length c, .func (.func g) #[] #[]] w fun e w' => e = .returned (.bool (againL p [] l)) ∧ Ext w w' := by
  have HF : Hid (againL p [] l = againL p (l.take 0) (l.drop 0)) := rfl
  generalize hF : againL p [] l = F at HF ⊢
  clear hF
  have HS := hid hS
  have HP := hid hp
  clear hS hp
  have hx00 : Ext w (w.alloc (.cells #[.func (.func g) #[] #[]] 142)) := Ext.alloc (Ext.refl w) _
  have hs0 : (w.alloc (.cells #[.func (.func g) #[] #[]] 142)).cell? ⟨w.heap.size, 0, none⟩ = some (.func (.func g) #[] #[]) := by simp [go_sem]
  go_enter Tryz.func77, Tryz.ntmps77
  go_wp2
  go_loopg [5, 6, 9] l.length (fun gg _ _ s9 wr => ∃ kk : Nat, kk ≤ l.length ∧ l.length - kk ≤ gg ∧ s9 = .int .i64 kk ∧ Ext (w.alloc (.cells #[.func (.func g) #[] #[]] 142)) wr ∧ Hid (F = againL p (l.take kk) (l.drop kk)))
  case atStart => exact ⟨0, Nat.zero_le _, by omega, rfl, Ext.refl _, HF⟩
  case round =>
    obtain ⟨kk, h1, h2, rfl, hx0, HF⟩ := hrel
    by_cases hlt : kk < l.length
    · have hlt' : (kk : Int) < (l.length : Int) := by omega
      obtain ⟨x, hx⟩ := get_of_lt l kk hlt
      have hA := (hA.ext hx00).ext hx0
      obtain ⟨b, off, rfl, c0, c1⟩ := Prs.at_ hA hx
      have HX := hid hx
      have HA := hid hA
      clear hx hA
      have hkc : ((kk : Int) ≤ (c : Int)) := by omega
      go_wp2_with fail
      have hx1 : Ext wr (wr.alloc (.cells #[.int .i64 x.1, .int .i64 x.2] 78)) := Ext.alloc (Ext.refl wr) _
      have hkc1 := (hx00.trans hx0).trans hx1
      have HT : Hid ((l.take kk).length = kk) := by unfold Hid; rw [List.length_take]; omega
      have hcon := containsFunc_pair (some ⟨b, off, none⟩) c (l.take kk) _ S (p x) _ ((Rows.take HA.out kk).ext hx1) (by rw [HT.out]; omega) (fun y hy => HS.out y (List.mem_of_mem_take hy))
        (again1_pair _ w.heap.size wr.heap.size g x S p (HS.out x (mem_of_get HX.out)) ((hx0.trans hx1).cell hs0) ⟨by simp [go_sem], by simp [go_sem]⟩ (HP.out.kc hkc1.kc))
      rw [HT.out] at hcon
      refine hcon.mono ?_
      have HD := againL_drop p l kk x HX.out
      cases hq : (l.take kk).any (p x)
      · rw [hq] at HD
        have HD := hid HD
        rintro e w1 ⟨rfl, hb1⟩
        go_wp2
        go_roundg (l.length - (kk + 1))
        case measure => omega
        case rel => exact ⟨kk + 1, by omega, by omega, by go_num, (hx0.trans hx1).trans hb1, HF.out.trans (by rw [HD.out]; rfl)⟩
      · rw [hq] at HD
        have HD := hid HD
        rintro e w1 ⟨rfl, hb1⟩
        go_wp2
        go_ret
        exact ⟨ret_of (bool_of (by rw [HF.out, HD.out]; rfl)), ((hx00.trans hx0).trans hx1).trans hb1⟩
    · have hlt' : ¬ (kk : Int) < (l.length : Int) := by omega
      go_wp2
      go_ret
      exact ⟨ret_of (bool_of (by rw [HF.out, againL_end p l kk (by omega)])), hx00.trans hx0⟩

/-- The cells of an element in block X. -/
def Cellrep (w : World) (X : Nat) (x : Rp) : Prop := w.cell? ⟨X, 0, none⟩ = some (.int .i64 x.bl) ∧ w.cell? ⟨X, 1, none⟩ = some (.bool x.hd)
set_option maxHeartbeats 400000 in
theorem again1_rep (w : World) (Sb Xb : Nat) (g : Nat) (x : Rp) (S : Rp → Prop) (p : Rp → Rp → Bool) (hS : S x) (hs : w.cell? ⟨Sb, 0, none⟩ = some (.func (.func g) #[] #[])) (hx : Cellrep w Xb x) (hp : FnP2 Tryz.prog g w RpR S p) :
    FnP Tryz.prog (.func (.func 166) #[] #[.pointer (some ⟨Sb, 0, none⟩), .pointer (some ⟨Xb, 0, none⟩)]) w RpR S (p x) := by
  refine ⟨_, _, _, rfl, enters_of Tryz.func166 (by kernel_rfl) rfl, fun y v W hs2 hW hR => ?_⟩
  obtain rfl : v = Rp.val y := hR
  unfold Rp.val
  show Calls _ _ #[_, _, _] _ _
  have hS1 : W.cell? ⟨Sb, 0, none⟩ = some (.func (.func g) #[] #[]) := hW.cell hs
  have hSo : ∀ o, (W.alloc o).cell? ⟨Sb, 0, none⟩ = some (.func (.func g) #[] #[]) := fun o => (hW.alloc o).cell hs
  obtain ⟨x0, x1⟩ := hx
  have hX0 := hW.cell x0
  have hXo0 := fun o => (hW.alloc o).cell x0
  have hX1 := hW.cell x1
  have hXo1 := fun o => (hW.alloc o).cell x1
  obtain ⟨eg, hcall⟩ := hp
  have HC := hid hcall
  have HS1 := hid hS
  have HS2 := hid hs2
  clear hcall hS hs2
  go_enter Tryz.func166, Tryz.ntmps166
  go_wp2_with fail
  refine (HC.out x y _ _ _ HS1.out HS2.out (hW.alloc _) rfl rfl).mono ?_
  rintro e w1 ⟨rfl, hb1⟩
  go_wp2
  go_ret
  exact ⟨rfl, (Ext.alloc (Ext.refl W) _).trans hb1⟩

set_option maxHeartbeats 1000000 in
theorem again_rep (A : Option Addr) (c : Nat) (l : List Rp) (g : Nat) (S : Rp → Prop) (p : Rp → Rp → Bool) (w : World) (hA : Reps w A l) (hl : l.length ≤ 9223372036854775807) (hS : ∀ x, x ∈ l → S x) (hp : FnP2 Tryz.prog g w RpR S p) (hc : l.length ≤ c) :
    Calls Tryz.prog 81 #[.slice A l.length c, .func (.func g) #[] #[]] w fun e w' => e = .returned (.bool (againL p [] l)) ∧ Ext w w' := by
  have HF : Hid (againL p [] l = againL p (l.take 0) (l.drop 0)) := rfl
  generalize hF : againL p [] l = F at HF ⊢
  clear hF
  have HS := hid hS
  have HP := hid hp
  clear hS hp
  have hx00 : Ext w (w.alloc (.cells #[.func (.func g) #[] #[]] 144)) := Ext.alloc (Ext.refl w) _
  have hs0 : (w.alloc (.cells #[.func (.func g) #[] #[]] 144)).cell? ⟨w.heap.size, 0, none⟩ = some (.func (.func g) #[] #[]) := by simp [go_sem]
  go_enter Tryz.func81, Tryz.ntmps81
  go_wp2
  go_loopg [5, 6, 9] l.length (fun gg _ _ s9 wr => ∃ kk : Nat, kk ≤ l.length ∧ l.length - kk ≤ gg ∧ s9 = .int .i64 kk ∧ Ext (w.alloc (.cells #[.func (.func g) #[] #[]] 144)) wr ∧ Hid (F = againL p (l.take kk) (l.drop kk)))
  case atStart => exact ⟨0, Nat.zero_le _, by omega, rfl, Ext.refl _, HF⟩
  case round =>
    obtain ⟨kk, h1, h2, rfl, hx0, HF⟩ := hrel
    by_cases hlt : kk < l.length
    · have hlt' : (kk : Int) < (l.length : Int) := by omega
      obtain ⟨x, hx⟩ := get_of_lt l kk hlt
      have hA := (hA.ext hx00).ext hx0
      obtain ⟨b, off, rfl, c0, c1⟩ := Reps.at_ hA hx
      have HX := hid hx
      have HA := hid hA
      clear hx hA
      have hkc : ((kk : Int) ≤ (c : Int)) := by omega
      go_wp2_with fail
      have hx1 : Ext wr (wr.alloc (.cells #[.int .i64 x.bl, .bool x.hd] 82)) := Ext.alloc (Ext.refl wr) _
      have hkc1 := (hx00.trans hx0).trans hx1
      have HT : Hid ((l.take kk).length = kk) := by unfold Hid; rw [List.length_take]; omega
      have hcon := containsFunc_rep (some ⟨b, off, none⟩) c (l.take kk) _ S (p x) _ ((Rows.take HA.out kk).ext hx1) (by rw [HT.out]; omega) (fun y hy => HS.out y (List.mem_of_mem_take hy))
        (again1_rep _ w.heap.size wr.heap.size g x S p (HS.out x (mem_of_get HX.out)) ((hx0.trans hx1).cell hs0) ⟨by simp [go_sem], by simp [go_sem]⟩ (HP.out.kc hkc1.kc))
      rw [HT.out] at hcon
      refine hcon.mono ?_
      have HD := againL_drop p l kk x HX.out
      cases hq : (l.take kk).any (p x)
      · rw [hq] at HD
        have HD := hid HD
        rintro e w1 ⟨rfl, hb1⟩
        go_wp2
        go_roundg (l.length - (kk + 1))
        case measure => omega
        case rel => exact ⟨kk + 1, by omega, by omega, by go_num, (hx0.trans hx1).trans hb1, HF.out.trans (by rw [HD.out]; rfl)⟩
      · rw [hq] at HD
        have HD := hid HD
        rintro e w1 ⟨rfl, hb1⟩
        go_wp2
        go_ret
        exact ⟨ret_of (bool_of (by rw [HF.out, HD.out]; rfl)), ((hx00.trans hx0).trans hx1).trans hb1⟩
    · have hlt' : ¬ (kk : Int) < (l.length : Int) := by omega
      go_wp2
      go_ret
      exact ⟨ret_of (bool_of (by rw [HF.out, againL_end p l kk (by omega)])), hx00.trans hx0⟩

/-- The cells of an element in block X. -/
def Cellint (w : World) (X : Nat) (x : Int) : Prop := w.cell? ⟨X, 0, none⟩ = some (.int .i64 x)
set_option maxHeartbeats 400000 in
theorem again1_int (w : World) (Sb Xb : Nat) (g : Nat) (x : Int) (S : Int → Prop) (p : Int → Int → Bool) (hS : S x) (hs : w.cell? ⟨Sb, 0, none⟩ = some (.func (.func g) #[] #[])) (hx : Cellint w Xb x) (hp : FnP2 Tryz.prog g w IntR S p) :
    FnP Tryz.prog (.func (.func 250) #[] #[.pointer (some ⟨Sb, 0, none⟩), .pointer (some ⟨Xb, 0, none⟩)]) w IntR S (p x) := by
  refine ⟨_, _, _, rfl, enters_of Tryz.func250 (by kernel_rfl) rfl, fun y v W hs2 hW hR => ?_⟩
  obtain rfl : v = (.int .i64 y) := hR
  show Calls _ _ #[_, _, _] _ _
  have hS1 : W.cell? ⟨Sb, 0, none⟩ = some (.func (.func g) #[] #[]) := hW.cell hs
  have hSo : ∀ o, (W.alloc o).cell? ⟨Sb, 0, none⟩ = some (.func (.func g) #[] #[]) := fun o => (hW.alloc o).cell hs
  have x0 : w.cell? ⟨Xb, 0, none⟩ = some (.int .i64 x) := hx
  have hX0 := hW.cell x0
  have hXo0 := fun o => (hW.alloc o).cell x0
  
  
  obtain ⟨eg, hcall⟩ := hp
  have HC := hid hcall
  have HS1 := hid hS
  have HS2 := hid hs2
  clear hcall hS hs2
  go_enter Tryz.func250, Tryz.ntmps250
  go_wp2_with fail
  refine (HC.out x y _ _ _ HS1.out HS2.out hW rfl rfl).mono ?_
  rintro e w1 ⟨rfl, hb1⟩
  go_wp2
  go_ret
  exact ⟨rfl, hb1⟩

set_option maxHeartbeats 1000000 in
theorem again_int (A : Option Addr) (c : Nat) (l : List Int) (g : Nat) (S : Int → Prop) (p : Int → Int → Bool) (w : World) (hA : Ints w A l) (hl : l.length ≤ 9223372036854775807) (hS : ∀ x, x ∈ l → S x) (hp : FnP2 Tryz.prog g w IntR S p) (hc : l.length ≤ c) :
    Calls Tryz.prog 231 #[.slice A l.length c, .func (.func g) #[] #[]] w fun e w' => e = .returned (.bool (againL p [] l)) ∧ Ext w w' := by
  have HF : Hid (againL p [] l = againL p (l.take 0) (l.drop 0)) := rfl
  generalize hF : againL p [] l = F at HF ⊢
  clear hF
  have HS := hid hS
  have HP := hid hp
  clear hS hp
  have hx00 : Ext w (w.alloc (.cells #[.func (.func g) #[] #[]] 206)) := Ext.alloc (Ext.refl w) _
  have hs0 : (w.alloc (.cells #[.func (.func g) #[] #[]] 206)).cell? ⟨w.heap.size, 0, none⟩ = some (.func (.func g) #[] #[]) := by simp [go_sem]
  go_enter Tryz.func231, Tryz.ntmps231
  go_wp2
  go_loopg [5, 6, 9] l.length (fun gg _ _ s9 wr => ∃ kk : Nat, kk ≤ l.length ∧ l.length - kk ≤ gg ∧ s9 = .int .i64 kk ∧ Ext (w.alloc (.cells #[.func (.func g) #[] #[]] 206)) wr ∧ Hid (F = againL p (l.take kk) (l.drop kk)))
  case atStart => exact ⟨0, Nat.zero_le _, by omega, rfl, Ext.refl _, HF⟩
  case round =>
    obtain ⟨kk, h1, h2, rfl, hx0, HF⟩ := hrel
    by_cases hlt : kk < l.length
    · have hlt' : (kk : Int) < (l.length : Int) := by omega
      obtain ⟨x, hx⟩ := get_of_lt l kk hlt
      have hA := (hA.ext hx00).ext hx0
      obtain ⟨b, off, rfl, c0⟩ := Ints.at_ hA hx
      have HX := hid hx
      have HA := hid hA
      clear hx hA
      have hkc : ((kk : Int) ≤ (c : Int)) := by omega
      go_wp2_with fail
      have hx1 : Ext wr (wr.alloc (.cells #[.int .i64 x] 3)) := Ext.alloc (Ext.refl wr) _
      have hkc1 := (hx00.trans hx0).trans hx1
      have HT : Hid ((l.take kk).length = kk) := by unfold Hid; rw [List.length_take]; omega
      have hcon := containsFunc_int (some ⟨b, off, none⟩) c (l.take kk) _ S (p x) _ ((Ints.take HA.out kk).ext hx1) (by rw [HT.out]; omega) (fun y hy => HS.out y (List.mem_of_mem_take hy))
        (again1_int _ w.heap.size wr.heap.size g x S p (HS.out x (mem_of_get HX.out)) ((hx0.trans hx1).cell hs0) (show _ = _ by simp [go_sem]) (HP.out.kc hkc1.kc))
      rw [HT.out] at hcon
      refine hcon.mono ?_
      have HD := againL_drop p l kk x HX.out
      cases hq : (l.take kk).any (p x)
      · rw [hq] at HD
        have HD := hid HD
        rintro e w1 ⟨rfl, hb1⟩
        go_wp2
        go_roundg (l.length - (kk + 1))
        case measure => omega
        case rel => exact ⟨kk + 1, by omega, by omega, by go_num, (hx0.trans hx1).trans hb1, HF.out.trans (by rw [HD.out]; rfl)⟩
      · rw [hq] at HD
        have HD := hid HD
        rintro e w1 ⟨rfl, hb1⟩
        go_wp2
        go_ret
        exact ⟨ret_of (bool_of (by rw [HF.out, HD.out]; rfl)), ((hx00.trans hx0).trans hx1).trans hb1⟩
    · have hlt' : ¬ (kk : Int) < (l.length : Int) := by omega
      go_wp2
      go_ret
      exact ⟨ret_of (bool_of (by rw [HF.out, againL_end p l kk (by omega)])), hx00.trans hx0⟩
end Go.Proofs.YtlonpgbapiemcaaGreat

namespace Go.Proofs.YtlonpgbapiemcaaGreat
open Go Go.RowKit Go.Shelf
set_option linter.unusedVariables false
set_option linter.unusedSimpArgs false

theorem sides_any (t : Int × Int) (w : World) : Calls Tryz.prog 79 #[pval t] w fun e w' => e = .returned (pval (sides t)) ∧ Ext w w' := by
  have H : Hid (∀ a b : Int, a = min t.1 t.2 → b = max t.1 t.2 → pval (sides t) = .agg #[.int .i64 a, .int .i64 b]) := fun a b ha hb => by rw [ha, hb]; rfl
  generalize pval (sides t) = V at H ⊢
  unfold pval
  go_enter Tryz.func79, Tryz.ntmps79
  go_wp2
  all_goals
    refine bodyPost_ret (v := V) ?_ rfl ⟨rfl, Ext.alloc (Ext.alloc (Ext.refl w) _) _⟩
    simp [results, Tryz.results79, go_sem]
    exact (H.out _ _ (by omega) (by omega)).symm
theorem run_sameT (w : World) (x y : Int × Int) : (Op.equalIn 10000 78 (pval (sides x)) (pval (sides y))).run Tryz.prog w = .ok (sameT x y) w := by
  have h := run_equalIn_arr1 (P := Tryz.prog) w 9998 78 3 .i64 2 Tryz.underlying78 Tryz.underlying3 (by kernel_rfl) (by kernel_rfl) [(sides x).1, (sides x).2] [(sides y).1, (sides y).2] rfl rfl
  have e : (([(sides x).1, (sides x).2] : List Int) == [(sides y).1, (sides y).2]) = sameT x y := by
    unfold sameT
    obtain ⟨a, b⟩ := sides x
    obtain ⟨c, d⟩ := sides y
    rw [Bool.eq_iff_iff]
    simp only [beq_iff_eq, List.cons.injEq, Prod.mk.injEq, and_true]
  rw [e] at h
  exact h
set_option maxRecDepth 100000 in
set_option maxHeartbeats 1000000 in
theorem check7_fn (w : World) : FnP2 Tryz.prog 78 w PrR anyx sameT := by
  refine ⟨enters_of Tryz.func78 (by kernel_rfl) rfl, fun x y v u W _ _ _ hR hR2 => ?_⟩
  obtain rfl : v = pval x := hR
  obtain rfl : u = pval y := hR2
  have HX : Hid (pval x = .agg #[.int .i64 x.1, .int .i64 x.2] ∧ pval y = .agg #[.int .i64 y.1, .int .i64 y.2]) := ⟨rfl, rfl⟩
  rw [HX.out.1, HX.out.2]
  go_enter Tryz.func78, Tryz.ntmps78
  go_wp2
  obtain ⟨W0, hW0⟩ : ∃ W0, (W.alloc (.cells #[.int .i64 x.1, .int .i64 x.2] 78)).alloc (.cells #[.int .i64 y.1, .int .i64 y.2] 78) = W0 := ⟨_, rfl⟩
  have hx0 : Ext W W0 := by rw [← hW0]; exact Ext.alloc (Ext.alloc (Ext.refl W) _) _
  have FX : Hid (∀ w', Ext W0 w' → w'.cell? ⟨W.heap.size, 0, none⟩ = some (.int .i64 x.1) ∧ w'.cell? ⟨W.heap.size, 1, none⟩ = some (.int .i64 x.2) ∧ w'.cell? ⟨W.heap.size + 1, 0, none⟩ = some (.int .i64 y.1) ∧ w'.cell? ⟨W.heap.size + 1, 1, none⟩ = some (.int .i64 y.2)) := fun w' h =>
    ⟨h.cell (by rw [← hW0]; simp [go_sem]), h.cell (by rw [← hW0]; simp [go_sem]), h.cell (by rw [← hW0]; simp [go_sem]), h.cell (by rw [← hW0]; simp [go_sem])⟩
  rw [hW0]
  clear hW0
  refine wp_region_shut Ext (fun w' => Ext W0 w') (fun | 1 => some (fun v _ => v = pval (sides x)) | 3 => some (fun v _ => v = pval (sides y)) | _ => none) (by kernel_rfl) (by kernel_rfl) (fun _ _ h k => h.trans k) ?hT (Ext.drew (Ext.refl W0)) ?_
  case hT =>
    intro i R hR
    match i, hR with
    | 1, hR => cases hR; exact fun _ _ _ h _ => h
    | 3, hR => cases hR; exact fun _ _ _ h _ => h
  refine wM_val ?ua0 rfl rfl Ext.refl (fun w' hD => ?ha0) (fun pha0 => ?na0)
  case ha0 =>
    obtain ⟨d0, d1, d2, d3⟩ := FX.out w' hD.1
    go_simp; rfl
  simp only [Act.put, List.setIfInBounds_toArray, List.set_cons_succ, List.set_cons_zero, Nat.reduceAdd]
  refine wM_op _ rfl rfl (opens_call ?fa1 ?ga1 (fun w' hD => ?ha1) (fun w' hD => ?ca1)) (fun v1 hv1 => ?na1)
  case ha1 => go_simp; constructor <;> rfl
  case ca1 =>
    refine (sides_any x w').mono ?_
    rintro e w2 ⟨rfl, hb⟩
    exact ⟨_, rfl, hb, rfl⟩
  obtain ⟨_, -, -, rfl⟩ := hv1
  simp only [Act.put, List.setIfInBounds_toArray, List.set_cons_succ, List.set_cons_zero, Nat.reduceAdd]
  refine wM_val ?ua2 rfl rfl Ext.refl (fun w' hD => ?ha2) (fun pha2 => ?na2)
  case ha2 =>
    obtain ⟨d0, d1, d2, d3⟩ := FX.out w' hD.1
    go_simp; rfl
  simp only [Act.put, List.setIfInBounds_toArray, List.set_cons_succ, List.set_cons_zero, Nat.reduceAdd]
  refine wM_op _ rfl rfl (opens_call ?fa3 ?ga3 (fun w' hD => ?ha3) (fun w' hD => ?ca3)) (fun v3 hv3 => ?na3)
  case ha3 => go_simp; constructor <;> rfl
  case ca3 =>
    refine (sides_any y w').mono ?_
    rintro e w2 ⟨rfl, hb⟩
    exact ⟨_, rfl, hb, rfl⟩
  obtain ⟨_, -, -, rfl⟩ := hv3
  simp only [Act.put, List.setIfInBounds_toArray, List.set_cons_succ, List.set_cons_zero, Nat.reduceAdd]
  refine wM_val (.bool (sameT x y)) rfl rfl Ext.refl (fun w' hD => ?ha4) (fun pha4 => ?na4)
  case ha4 =>
    refine run_eql_op w' _ 78 78 (.tmp 6) (.tmp 8) ?_ _ _ ?_ ?_ _ Tryz.eqGuardType78 (run_sameT w' x y)
    · rfl
    · rfl
    · rfl
  simp only [Act.put, List.setIfInBounds_toArray, List.set_cons_succ, List.set_cons_zero, Nat.reduceAdd]
  refine wM_val ?ua5 rfl rfl Ext.refl (fun w' hD => ?ha5) (fun pha5 => ?na5)
  case ha5 =>
    obtain ⟨d0, d1, d2, d3⟩ := FX.out w' hD.1
    go_simp; rfl
  simp only [Act.put, List.setIfInBounds_toArray, List.set_cons_succ, List.set_cons_zero, Nat.reduceAdd]
  refine wM_nil ?_
  intro w9 hw9 hF9
  go_wp2
  go_ret
  exact ⟨rfl, hx0.trans hw9⟩
theorem check81_fn (w : World) : FnP2 Tryz.prog 82 w RpR anyx sameR := by
  refine ⟨enters_of Tryz.func82 (by kernel_rfl) rfl, fun x y v u W _ _ _ hR hR2 => ?_⟩
  obtain rfl : v = x.val := hR
  obtain rfl : u = y.val := hR2
  unfold Rp.val
  go_enter Tryz.func82, Tryz.ntmps82
  go_wp2
  go_ret
  exact ⟨rfl, Ext.alloc (Ext.alloc (Ext.refl W) _) _⟩
theorem check8_fn (w : World) : FnP Tryz.prog (.func (.func 80) #[] #[]) w CtR (fun x => x.rp.length ≤ 8) (fun c => !againL sameR [] c.rp) := by
  refine ⟨_, _, _, rfl, enters_of Tryz.func80 (by kernel_rfl) rfl, fun x v W hs hW hR => ?_⟩
  obtain ⟨A, c, A', c', rfl, hS, hRp, hk1, hk2⟩ := hR
  show Calls _ _ #[_] _ _
  go_enter Tryz.func80, Tryz.ntmps80
  go_wp2_with fail
  refine (again_rep A' c' x.rp 82 anyx sameR _ (hRp.ext (Ext.alloc (Ext.refl W) _)) (by omega) (anyx_all _) (check81_fn _) hk2).mono ?_
  rintro e w1 ⟨rfl, hb1⟩
  go_wp2
  go_ret
  exact ⟨rfl, (Ext.alloc (Ext.refl W) _).trans hb1⟩
end Go.Proofs.YtlonpgbapiemcaaGreat
