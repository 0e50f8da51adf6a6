/- The walk of twin: claims with bounds of their own. -/
import Derived.Test.YtgnjhaomlbkgcaaWClone
import Derived.Test.YtgnjhaomlbkgcaaWMade
import Derived.Test.YtgnjhaomlbkgcaaOwn
namespace Go.Proofs.Ytgnjhaomlbkgcaa
open Go Go.RowKit Go.Shelf
set_option linter.unusedVariables false
set_option linter.unusedSimpArgs false

/-- Claims whose bounds lie in rows of the call's own. -/
def ClW (w : World) (B : Nat) : List Value → List Cl → Prop
  | [], [] => True
  | a :: b :: xs, x :: l => a = .int .i64 x.w ∧ (∃ A k, b = .slice A x.bs.length k ∧ w.ownsRow B 35 3 (.slice A x.bs.length k) x.bs.length (bcells x.bs)) ∧ ClW w B xs l
  | _, _ => False
theorem ClW.keep {w w' : World} {B : Nat} (hk : ∀ v n ys, w.ownsRow B 35 3 v n ys → w'.ownsRow B 35 3 v n ys) : ∀ {xs : List Value} {l : List Cl}, ClW w B xs l → ClW w' B xs l
  | [], [], _ => trivial
  | _ :: _ :: xs, _ :: l, ⟨h1, ⟨A, k, h2, h3⟩, h4⟩ => ⟨h1, ⟨A, k, h2, hk _ _ _ h3⟩, ClW.keep hk h4⟩
  | [], _ :: _, h => h.elim
  | _ :: _, [], h => by rename_i xs; cases xs <;> exact h.elim
  | [_], _ :: _, h => h.elim
theorem ClW.ext {w w' : World} {B : Nat} {xs : List Value} {l : List Cl} (h : ClW w B xs l) (hx : Ext w w') : ClW w' B xs l := h.keep fun _ _ _ ho => own_below ho hx
theorem ClW.base {w : World} {B B' : Nat} (hb : B' ≤ B) : ∀ {xs : List Value} {l : List Cl}, ClW w B xs l → ClW w B' xs l
  | [], [], _ => trivial
  | _ :: _ :: xs, _ :: l, ⟨h1, ⟨A, k, h2, h3⟩, h4⟩ => ⟨h1, ⟨A, k, h2, own_base h3 hb⟩, ClW.base hb h4⟩
  | [], _ :: _, h => h.elim
  | _ :: _, [], h => by rename_i xs; cases xs <;> exact h.elim
  | [_], _ :: _, h => h.elim
theorem ClW.app {w : World} {B : Nat} : ∀ {xs ys : List Value} {l m : List Cl}, ClW w B xs l → ClW w B ys m → ClW w B (xs ++ ys) (l ++ m)
  | [], _, [], _, _, hy => hy
  | _ :: _ :: xs, _, _ :: l, _, ⟨h1, h2, h4⟩, hy => ⟨h1, h2, ClW.app h4 hy⟩
  | [], _, _ :: _, _, h, _ => h.elim
  | [_], _, [], _, h, _ => h.elim
  | _ :: _ :: _, _, [], _, h, _ => h.elim
  | [_], _, _ :: _, _, h, _ => h.elim
theorem ClW.toC {w : World} {B : Nat} : ∀ {xs : List Value} {l : List Cl}, ClW w B xs l → ClC w xs l
  | [], [], _ => trivial
  | _ :: _ :: xs, _ :: l, ⟨h1, ⟨A, k, h2, h3⟩, h4⟩ => ⟨h1, ⟨A, k, h2, Rd.of_own h3⟩, ClW.toC h4⟩
  | [], _ :: _, h => h.elim
  | _ :: _, [], h => by rename_i xs; cases xs <;> exact h.elim
  | [_], _ :: _, h => h.elim
/-- A row of another type is not touched by what is stored into a row of claims. -/
theorem own_apart {w w' : World} {B g : Nat} {v : Value} {n : Nat} {ys : List Value} (hx : BelS (fun i => i = g) w w') (hg : ∃ cur, w.heap[g]? = some (.cells cur 37 (0, 0))) (h : w.ownsRow B 35 3 v n ys) : w'.ownsRow B 35 3 v n ys := by
  refine hx.own h fun i hi e => ?_
  obtain ⟨A, c, rfl⟩ := own_slice h
  obtain ⟨a, rfl, ha⟩ := slice_own hi
  obtain ⟨i2, hi2⟩ := own_at h (by simp)
  cases hi2
  have e2 : i2 = i := ha
  exact ty_ne (own_ty h) hg (by decide) (e2.trans e)

def TwinPost (w : World) (A : Option Addr) (l : List Cl) (e : Ending) (w' : World) : Prop :=
  ∃ A' c' xs, e = .returned (.slice A' l.length c') ∧ w'.ownsRow w.heap.size 37 2 (.slice A' l.length c') l.length xs ∧ ClW w' w.heap.size xs l ∧ (A' = none ↔ A = none) ∧ Ext w w'

set_option maxRecDepth 100000 in
set_option maxHeartbeats 4000000 in
theorem twin_any (A : Option Addr) (k0 : Nat) (l : List Cl) (w : World) (xs0 : List Value) (hR : Rd w A xs0) (hC0 : ClC w xs0 l) (hl2 : l.length * 32 ≤ 140737488355328) (hl3 : ∀ x ∈ l, x.bs.length * 24 ≤ 140737488355328) :
    Calls Try.prog 104 #[.slice A l.length k0] w (TwinPost w A l) := by
  have HL3 := hid hl3
  clear hl3
  go_enter Try.func104, Try.ntmps104
  go_wp2_with fail
  refine (clone_claim A k0 l w xs0 hR hC0 hl2).mono ?_
  rintro e w1 ⟨A', c', rfl, ho, hnn, hx1⟩
  have O1 := hid ho
  have HNN := hid hnn
  have HR0 : Hid (ClC w xs0 (l.drop 0)) := hC0
  clear ho hnn
  go_wp2
  go_loopw [10] (fun i wr => ∃ (k : Nat) (xd xr : List Value), i = .int .i64 (k : Int) ∧ k ≤ l.length ∧ Hid (xd.length = k * 2) ∧ Hid (wr.ownsRow w.heap.size 37 2 (.slice A' l.length c') l.length (xd ++ xr)) ∧ Hid (ClW wr w.heap.size xd (l.take k)) ∧ Hid (ClC w xr (l.drop k)) ∧ Ext w wr) (fun i _ => l.length - (intOf i).toNat)
  case atStart => exact ⟨0, [], xs0, rfl, Nat.zero_le _, rfl, O1, trivial, HR0, hx1⟩
  case round =>
    obtain ⟨k, xd, xr, rfl, hk, HXD, O2, HCO, HCR, hx⟩ := hrel
    by_cases hlt : k < l.length
    · have hlt' : (k : Int) < (l.length : Int) := by omega
      obtain ⟨x, hxk⟩ := get_of_lt l k hlt
      have hdk : l.drop k = x :: l.drop (k + 1) := by rw [List.drop_eq_getElem_cons hlt, (List.getElem?_eq_some_iff.1 hxk).2]
      have htk : l.take (k + 1) = l.take k ++ [x] := by rw [List.take_succ_eq_append_getElem hlt, (List.getElem?_eq_some_iff.1 hxk).2]
      have hcr := HCR.out
      rw [hdk] at hcr
      obtain ⟨A3, k3, ys, rfl, hBx, hys⟩ := hcr.drop1
      have hl3 := HL3.out x (mem_of_get hxk)
      have HTK := hid htk
      have HYS : Hid (ClC w ys (l.drop (k + 1))) := hys
      obtain ⟨g2, hg2e⟩ : ∃ g, A' = some ⟨g, 0, none⟩ := by
        rcases O2.out.2 with ⟨_, h0⟩ | ⟨g, _, _, h, _⟩
        · omega
        · cases h; exact ⟨g, rfl⟩
      subst hg2e
      have c0 := O2.out.cellAt (k * 2) (by omega)
      have c1 := O2.out.cellAt (k * 2 + 1) (by omega)
      rw [List.getElem?_append_right (by rw [HXD.out]; omega), HXD.out, show k * 2 - k * 2 = 0 by omega] at c0
      rw [List.getElem?_append_right (by rw [HXD.out]; omega), HXD.out, show k * 2 + 1 - k * 2 = 1 by omega] at c1
      simp only [List.getElem?_cons_zero, List.getElem?_cons_succ] at c0 c1
      clear hdk htk hcr hys HCR hxk
      go_wp2_with fail
      have xo := Ext.alloc (Ext.refl wr) (.cells #[.int .i64 x.w, .slice A3 x.bs.length k3] 37)
      refine (clone_bound A3 k3 x.bs _ ((hBx.ext hx).ext xo) (by omega)).mono ?_
      rintro e w9 ⟨A5, c5, rfl, ho5, _, hx5⟩
      have x9 := xo.trans hx5
      have hsz := xo.size
      have hsz2 := hx.size
      have O29 := hid (own_below O2.out x9)
      have hf := O29.out.frozenAt
      have hfk := hf (k * 2 + 1)
      have hck := O29.out.cellAt (k * 2 + 1) (by omega)
      rw [List.getElem?_append_right (by rw [HXD.out]; omega), HXD.out, show k * 2 + 1 - k * 2 = 1 by omega] at hck
      simp only [List.getElem?_cons_zero, List.getElem?_cons_succ] at hck
      have O5 := hid (own_base (base' := w.heap.size) ho5 (by omega))
      have hgB : w.heap.size ≤ g2 := (O29.out.lt g2 rfl).1
      clear hf ho5 c0 c1
      go_wp2
      have st := O29.out.stored (k * 2 + 1) (.slice A5 x.bs.length c5)
      have xg : BelS (fun i => i = g2) w9 (w9.setCell ⟨g2, k * 2 + 1, none⟩ (.slice A5 x.bs.length c5)) := BelS.setCell (S := fun i => i = g2) (BelS.refl _ w9) _ _ rfl
      have xf : Ext w (w9.setCell ⟨g2, k * 2 + 1, none⟩ (.slice A5 x.bs.length c5)) := (hx.trans x9).setCell hgB _
      have hT2 := own_ty O29.out
      have N2 : Hid ((w9.setCell ⟨g2, k * 2 + 1, none⟩ (.slice A5 x.bs.length c5)).ownsRow w.heap.size 37 2 (.slice (some ⟨g2, 0, none⟩) l.length c') l.length ((xd ++ [.int .i64 x.w, .slice A5 x.bs.length c5]) ++ ys)) := by
        have h1 := st.1
        rw [List.set_append_right _ _ (by rw [HXD.out]; omega), HXD.out, show k * 2 + 1 - k * 2 = 1 by omega] at h1
        unfold Hid
        simpa using h1
      have NC : Hid (ClW (w9.setCell ⟨g2, k * 2 + 1, none⟩ (.slice A5 x.bs.length c5)) w.heap.size (xd ++ [.int .i64 x.w, .slice A5 x.bs.length c5]) (l.take (k + 1))) := by
        unfold Hid
        rw [HTK.out]
        exact ClW.app (m := [x]) ((HCO.out.ext x9).keep fun v n ys ho => own_apart xg hT2 ho) ⟨rfl, ⟨A5, c5, rfl, own_apart xg hT2 O5.out⟩, trivial⟩
      have NX : Hid ((xd ++ [Value.int .i64 x.w, Value.slice A5 x.bs.length c5]).length = (k + 1) * 2) := by unfold Hid; simp [HXD.out]; omega
      clear st xg hck hfk HCO HTK HXD O29 O2 O5 hx x9 hx5 xo hT2
      go_wp2
      go_roundw
      case rel => exact ⟨k + 1, xd ++ [.int .i64 x.w, .slice A5 x.bs.length c5], ys, by go_num, by omega, NX, N2, NC, HYS, xf⟩
      case measure => simp [intOf]; omega
    · have hlt' : ¬ (k : Int) < (l.length : Int) := by omega
      have hxr : xr = [] := by
        have := HCR.out
        rw [List.drop_eq_nil_of_le (by omega)] at this
        exact this.nil_
      subst hxr
      have hcl := HCO.out
      rw [List.take_of_length_le (by omega)] at hcl
      have ho2 := O2.out
      rw [List.append_nil] at ho2
      have H1 := hid hcl
      have H2 := hid ho2
      clear hcl ho2
      go_wp2
      go_ret
      exact ⟨A', c', xd, rfl, H2.out, H1.out, HNN.out, hx⟩
end Go.Proofs.Ytgnjhaomlbkgcaa
