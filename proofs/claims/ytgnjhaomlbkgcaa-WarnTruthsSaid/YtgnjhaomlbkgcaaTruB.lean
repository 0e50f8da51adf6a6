/- The Go function laurellaw10.WarnTruths returns true for every call, and leaves what is passed in as it was: no further condition. -/
import Derived.Test.YtgnjhaomlbkgcaaWSlices
import Derived.Test.YtgnjhaomlbkgcaaWAll
import Derived.Test.YtgnjhaomlbkgcaaWDesk
import Derived.Test.YtgnjhaomlbkgcaaWTruth
import Derived.Test.YtgnjhaomlbkgcaaWPath
import Derived.Test.YtgnjhaomlbkgcaaWLiars
import Derived.Test.YtgnjhaomlbkgcaaRowsA
import Derived.Test.YtgnjhaomlbkgcaaRefP
import Derived.Test.YtgnjhaomlbkgcaaRefQ
import Derived.Test.YtgnjhaomlbkgcaaRef2
import Derived.Test.YtgnjhaomlbkgcaaWShows
import Derived.Test.YtgnjhaomlbkgcaaWWork
import Derived.Test.YtgnjhaomlbkgcaaWOpen
import Derived.BigQuiet
import Derived.Test.YtgnjhaomlbkgcaaWBel
import Derived.Test.YtgnjhaomlbkgcaaWMade
import Derived.RangeFuncBox
import Derived.OwnWalkIn
import Derived.Test.YtgnjhaomlbkgcaaBase
import Derived.Test.YtgnjhaomlbkgcaaProg
import Derived.Test.YtgnjhaomlbkgcaaWMadeP
import Derived.Test.YtgnjhaomlbkgcaaWAsk2
import Derived.Test.YtgnjhaomlbkgcaaWLiars2
import Derived.Test.YtgnjhaomlbkgcaaWRing
import Derived.Laws.ResultCell
import Derived.Test.YtgnjhaomlbkgcaaDup
import Derived.Laws.StructEq
import Derived.Test.YtgnjhaomlbkgcaaRows
import Derived.WalkKit
import Derived.ProofKit
import Derived.OpenShut
import Derived.ShutString
import Derived.ChangeOld
import Derived.Below
namespace Go.Proofs.Ytgnjhaomlbkgcaa
open Go Go.RowKit Go.Shelf
set_option linter.unusedVariables false
set_option linter.unusedSimpArgs false

def bdHolds (l : List Int) (b : Bd) : Bool := decide (l.getD b.t.toNat 0 ≤ l.getD b.f.toNat 0 + b.m)
def bdIn (n : Nat) (b : Bd) : Prop := (0 ≤ b.f ∧ b.f < (n : Int)) ∧ (0 ≤ b.t ∧ b.t < (n : Int)) ∧ -2000 ≤ b.m ∧ b.m ≤ 2000

set_option maxRecDepth 100000 in
set_option maxHeartbeats 2000000 in
theorem holds1_fn (w : World) (B : Nat) (A : Option Addr) (k : Nat) (l : List Int) (hB : w.cell? ⟨B, 0, none⟩ = some (.slice A l.length k)) (hA : Ints w A l) (hl : ∀ x ∈ l, -1000000 ≤ x ∧ x ≤ 1000000) :
    FnP Try.prog (.func (.func 91) #[] #[.pointer (some ⟨B, 0, none⟩)]) w BdR (bdIn l.length) (fun b => !bdHolds l b) := by
  refine ⟨_, _, _, rfl, enters_of Try.func91 (by kernel_rfl) rfl, fun x v2 W hs hW hR => ?_⟩
  obtain rfl : v2 = x.val := hR
  obtain ⟨f, t, m⟩ := x
  obtain ⟨⟨f0, f1⟩, ⟨t0, t1⟩, m0, m1⟩ := hs
  simp only at f0 f1 t0 t1 m0 m1
  obtain ⟨fn, rfl⟩ : ∃ k : Nat, f = k := ⟨f.toNat, by omega⟩
  obtain ⟨tn, rfl⟩ : ∃ k : Nat, t = k := ⟨t.toNat, by omega⟩
  obtain ⟨x, hx⟩ := get_of_lt l fn (by omega)
  obtain ⟨y, hy⟩ := get_of_lt l tn (by omega)
  have bx := hl x (mem_of_get hx)
  have by_ := hl y (mem_of_get hy)
  have H : Hid ((!bdHolds l ⟨(fn : Int), (tn : Int), m⟩) = decide (y > x + m)) := by
    unfold Hid bdHolds
    simp only [Int.toNat_natCast, List.getD_eq_getElem?_getD, hx, hy, Option.getD_some]
    rw [← decide_not]
    congr 1
    exact propext ⟨fun h => by omega, fun h => by omega⟩
  have hxa : Ext W (W.alloc (.cells #[.int .i64 (fn : Int), .int .i64 (tn : Int), .int .i64 m] 35)) := Ext.alloc (Ext.refl W) _
  obtain ⟨b1, o1, rfl, cx⟩ := ((hA.kc hW).ext hxa).at_ hx
  obtain ⟨b2, o2, e2, cy⟩ := ((hA.kc hW).ext hxa).at_ hy
  cases e2
  have cB := hxa.cell (hW.cell hB)
  have hsum : IntKind.i64.wrap (x + m) = x + m := IntWalk.i64_in _ ⟨by omega, by omega⟩
  clear hA hB hx hy hl
  unfold Bd.val
  show Calls _ _ #[_, _] _ _
  go_enter Try.func91, Try.ntmps91
  go_wp2
  go_quiet (fail)
  go_wp2
  go_ret
  exact ⟨ret_of (bool_of H.out.symm), Ext.drewN hxa _⟩

set_option maxRecDepth 100000 in
set_option maxHeartbeats 1000000 in
theorem holds_any (A : Option Addr) (k0 : Nat) (L : List Bd) (A2 : Option Addr) (k2 : Nat) (l : List Int) (w : World) (hA : Bounds w A L) (hR : Ints w A2 l) (hl : L.length ≤ 1000000) (hL : ∀ b ∈ L, bdIn l.length b) (hm : ∀ x ∈ l, -1000000 ≤ x ∧ x ≤ 1000000) :
    Calls Try.prog 26 #[.slice A L.length k0, .slice A2 l.length k2] w fun e w' => e = .returned (.bool (L.all (bdHolds l))) ∧ Ext w w' := by
  have hxa : Ext w (w.alloc (.cells #[.slice A2 l.length k2] 27)) := Ext.alloc (Ext.refl w) _
  have hf := holds1_fn (w.alloc (.cells #[.slice A2 l.length k2] 27)) w.heap.size A2 k2 l (by simp [go_sem]) (hR.ext hxa) hm
  have HL := hid hL
  have HA : Hid (L.all (bdHolds l) = !(L.any fun b => !bdHolds l b)) := all_any _ _
  clear hL hm
  go_enter Try.func26, Try.ntmps26
  go_wp2_with fail
  refine (containsFunc_bound A k0 L _ (bdIn l.length) (fun b => !bdHolds l b) _ (hA.ext hxa) (by omega) HL.out hf).mono ?_
  rintro e w1 ⟨rfl, hx1⟩
  go_wp2
  go_ret
  exact ⟨ret_of (bool_of HA.out.symm), hxa.trans hx1⟩
end Go.Proofs.Ytgnjhaomlbkgcaa

namespace Go.Proofs.Ytgnjhaomlbkgcaa
open Go Go.RowKit
set_option linter.unusedVariables false
set_option linter.unusedSimpArgs false

theorem colMin_le (g : Mat) (x : Nat) : ∀ a, colMin g x a ≤ 0 ∧ ∀ i, i < a → colMin g x a ≤ g i x := by
  intro a
  induction a with
  | zero => exact ⟨by simp [colMin], fun i h => by omega⟩
  | succ a ih =>
    obtain ⟨h1, h2⟩ := ih
    rw [colMin_succ]
    refine ⟨by omega, fun i hi => ?_⟩
    by_cases e : i = a
    · subst e; omega
    · have := h2 i (by omega); omega
theorem colMin_is (g : Mat) (x : Nat) : ∀ a, colMin g x a = 0 ∨ ∃ i, i < a ∧ colMin g x a = g i x := by
  intro a
  induction a with
  | zero => left; simp [colMin]
  | succ a ih =>
    rw [colMin_succ]
    by_cases h : colMin g x a ≤ g a x
    · rw [Int.min_eq_left h]
      rcases ih with h1 | ⟨i, hi, h1⟩
      · exact .inl h1
      · exact .inr ⟨i, by omega, h1⟩
    · rw [Int.min_eq_right (by omega)]
      exact .inr ⟨a, by omega, rfl⟩
theorem truthL_get (c : Cs) (k : Nat) (hk : k < c.ev.toNat) : (truthL c)[k]? = some (colMin (gapsM allT c) k c.ev.toNat - colMin (gapsM allT c) 0 c.ev.toNat) := by
  unfold truthL
  rw [List.getElem?_map, List.getElem?_range hk]; rfl
theorem truthL_len (c : Cs) : (truthL c).length = c.ev.toNat := by simp [truthL]
theorem colMin_ge {c : Cs} (h0 : checkC c = 0) {x : Nat} (hx : x < 8) : -416000 ≤ colMin (gapsM allT c) x c.ev.toNat := by
  have hev := checkC_ev h0
  rcases colMin_is (gapsM allT c) x c.ev.toNat with h | ⟨i, hi, h⟩
  · omega
  · have := (gapsM_low (tf := allT) h0 i x (by omega) hx).1
    omega
theorem truth_ok {c : Cs} (h : toldC c = 0) : (truthL c)[0]? = some 0 ∧ (∀ x ∈ truthL c, -416000 ≤ x ∧ x ≤ 416000) ∧ TruthOf c.all (fun k => (truthL c).getD k 0) := by
  have h0 := toldC_check h
  have hev := checkC_ev h0
  have hcl : clashM (gapsM allT c) = false := by
    unfold toldC at h
    rw [if_pos h0] at h
    cases hq : clashM (gapsM allT c) with
    | false => rfl
    | true => rw [hq, if_pos rfl] at h; cases h
  have hf := fine_of h0 hcl
  refine ⟨by rw [truthL_get c 0 (by omega)]; simp, fun x hx => ?_, fun b hb => ?_⟩
  · unfold truthL at hx
    obtain ⟨k, hk, rfl⟩ := List.mem_map.1 hx
    rw [List.mem_range] at hk
    have h1 := colMin_ge h0 (x := k) (by omega)
    have h2 := colMin_ge h0 (x := 0) (by omega)
    have h3 := (colMin_le (gapsM allT c) k c.ev.toNat).1
    have h4 := (colMin_le (gapsM allT c) 0 c.ev.toNat).1
    omega
  · obtain ⟨h1, h2, h3, h4, h5⟩ := checkC_ok h0
    obtain ⟨⟨f0, f1⟩, t0, t1⟩ := evOK_get h3 hb
    have hfl : b.f.toNat < c.ev.toNat := by omega
    have htl : b.t.toNat < c.ev.toNat := by omega
    show (truthL c).getD _ 0 ≤ (truthL c).getD _ 0 + b.m
    rw [List.getD_eq_getElem?_getD, List.getD_eq_getElem?_getD, truthL_get c _ hfl, truthL_get c _ htl]
    simp only [Option.getD_some]
    have hb' : b ∈ belL allT c := by rw [belL_all]; exact hb
    have key : ∃ i, i < c.ev.toNat ∧ gapsM allT c i b.f.toNat ≠ far ∧ gapsM allT c i b.f.toNat = colMin (gapsM allT c) b.f.toNat c.ev.toNat := by
      have k1 := colMin_le (gapsM allT c) b.f.toNat c.ev.toNat
      rcases colMin_is (gapsM allT c) b.f.toNat c.ev.toNat with h | ⟨i, hi, h⟩
      · have k2 := k1.2 b.f.toNat hfl
        have k3 := gap_le h0 hf (a := b.f.toNat) (b := b.f.toNat) (by omega) (by omega) (Row.nil _ _)
        simp only [sumW] at k3
        exact ⟨b.f.toNat, hfl, by unfold far; omega, by omega⟩
      · exact ⟨i, hi, by unfold far; omega, h.symm⟩
    obtain ⟨i, hi, hn, he⟩ := key
    obtain ⟨l, hl, hs⟩ := gap_row h0 (a := i) (b := b.f.toNat) (by omega) (by omega) hn
    have k4 := gap_le h0 hf (a := i) (b := b.t.toNat) (by omega) (by omega) (hl.snoc hb')
    rw [sumW_app] at k4
    simp only [sumW] at k4
    have k5 := (colMin_le (gapsM allT c) b.t.toNat c.ev.toNat).2 i hi
    omega
end Go.Proofs.Ytgnjhaomlbkgcaa

namespace Go.Proofs.Ytgnjhaomlbkgcaa
open Go Go.RowKit Go.Shelf
set_option linter.unusedVariables false
set_option linter.unusedSimpArgs false

def rowG (g : Mat) (n : Nat) : List Int := (List.range n).map fun x => g 0 x
theorem rowG_len (g : Mat) (n : Nat) : (rowG g n).length = n := by simp [rowG]
theorem rowG_get (g : Mat) {n k : Nat} (h : k < n) : (rowG g n)[k]? = some (g 0 k) := by
  unfold rowG
  rw [List.getElem?_map, List.getElem?_range h]; rfl
/-- The error of Latest; its row is rowG of the gaps. -/
def latestC (c : Cs) : Int := if toldC c ≠ 0 then toldC c else if memI 1099511627776 (rowG (gapsM allT c) c.ev.toNat) then 6 else 0

set_option maxRecDepth 100000 in
set_option maxHeartbeats 2000000 in
theorem latest_any (v : Value) (c : Cs) (w : World) (hc : CsR w v c) (hs : c.sized) :
    Calls Try.prog 30 #[v] w fun e w' => ∃ r, e = .returned (.tuple #[r, .int .i64 (latestC c)]) ∧ Ext w w' ∧ (latestC c = 0 → ∃ A' c', r = .slice A' c.ev.toNat c' ∧ Ints w' A' (rowG (gapsM allT c) c.ev.toNat)) ∧ (latestC c ≠ 0 → r = .slice none 0 0) := by
  have hc' := hc
  obtain ⟨A1, c1, A2, c2, rfl, hB, hC⟩ := hc
  obtain ⟨T, hT⟩ : ∃ T, toldC c = T := ⟨_, rfl⟩
  have HT := hid hT
  obtain ⟨n, hn0⟩ : ∃ n : Nat, c.ev.toNat = n := ⟨_, rfl⟩
  have HEV := hid hn0
  obtain ⟨F, hF⟩ : ∃ F, latestC c = F := ⟨_, rfl⟩
  have HF : Hid ((if toldC c ≠ 0 then toldC c else if memI 1099511627776 (rowG (gapsM allT c) c.ev.toNat) then 6 else 0) = F) := hF
  rw [hF, hn0]
  clear hT hF hn0
  go_enter Try.func30, Try.ntmps30
  go_wp2_with fail
  have hx0 : Ext w (w.alloc (.cells #[.int .i64 c.ev, .slice A1 c.bs.length c1, .int .i64 c.wi, .slice A2 c.cl.length c2] 26)) := Ext.alloc (Ext.refl w) _
  refine (told_any _ c _ (hc'.ext hx0) hs).mono ?_
  rintro e w1 ⟨r, rfl, hb1, hr1, hr2⟩
  have hx1 := hx0.trans hb1
  have kc0 := hb1.cell (p := ⟨w.heap.size, 0, none⟩) (u := .int .i64 c.ev) (by simp [go_sem])
  rw [HT.out] at hr1 hr2 HF ⊢
  by_cases h0 : T = 0
  case neg =>
    have hr := hr2 h0
    subst hr
    have H0 := hid h0
    have HFT : Hid (F = T) := by have := HF.out; rw [if_pos h0] at this; exact this.symm
    clear hr1 hr2 HF
    go_wp2
    go_ret2
    refine ⟨.slice none 0 0, (by rw [HFT.out]; rfl), hx1, fun h => absurd (HFT.out.symm.trans h) H0.out, fun _ => rfl⟩
  have hr := hr1 h0
  have HT0 : toldC c = 0 := HT.out.trans h0
  have H0 := toldC_check HT0
  subst h0
  clear hr1 hr2 HT
  obtain ⟨D, B1, k1, B2, k2, rfl, hd, _, _⟩ := hr
  obtain ⟨ev1, ev8⟩ := checkC_ev H0
  have hn : c.ev = (n : Int) := by have := HEV.out; omega
  have HF2 : Hid ((if memI 1099511627776 (rowG (gapsM allT c) n) then (6 : Int) else 0) = F) := by
    have := HF.out
    rw [if_neg (by simp), HEV.out] at this
    exact this
  rw [hn] at kc0
  have hn1 : 1 ≤ n := by omega
  have hn8 : n ≤ 8 := by omega
  clear HF HT0 H0
  generalize hG : gapsM allT c = g at *
  have HG := hid hG
  clear hG
  have HI : Hid (Ints w1 (some ⟨D, 4, none⟩) (rowG g n)) := .inr ⟨D, 4, rfl, fun j u hu => by
    rw [List.getElem?_map] at hu
    rcases Nat.lt_or_ge j n with h | h
    · rw [rowG_get g h] at hu
      cases hu
      have := hd.at_ (a := 0) (b := j) (by omega) (by omega)
      simpa using this
    · rw [List.getElem?_eq_none (by rw [rowG_len]; omega)] at hu; cases hu⟩
  have hni8 : (n : Int) ≤ 8 := by omega
  have hni0 : ¬ (n : Int) < 0 := by omega
  have FX : Hid (∀ w', Ext w1 w' → w'.cell? ⟨w.heap.size, 0, none⟩ = some (.int .i64 (n : Int))) := fun w' h => h.cell kc0
  clear hd kc0 hn ev1 ev8
  go_wp2
  refine wp_region_opens Ext (fun w' => Ext w1 w') (fun | 7 => some (fun v w' => ∃ A' c', v = .slice A' n c' ∧ Ints w' A' (rowG g n)) | _ => none) (by kernel_rfl) (by kernel_rfl) (ext_up w1) ?hT (Ext.drew (Ext.refl w1)) ?_
  case hT =>
    intro i R hR
    match i, hR with
    | 7, hR => cases hR; exact fun _ _ _ ⟨A', c', e1, e2⟩ k => ⟨A', c', e1, e2.ext k⟩
  refine wpM_val ?ua0 rfl rfl Ext.refl (fun w' hD => ?ha0) ?na0
  case ha0 =>
    have d0 := FX.out w' hD.1
    go_simp; rfl
  simp only [Act.put, List.setIfInBounds_toArray, List.set_cons_succ, List.set_cons_zero, Nat.reduceAdd]
  refine wpM_val ?ua1 rfl rfl Ext.refl (fun w' hD => ?ha1) ?na1
  case ha1 =>
    have d0 := FX.out w' hD.1
    go_simp; rfl
  simp only [Act.put, List.setIfInBounds_toArray, List.set_cons_succ, List.set_cons_zero, Nat.reduceAdd]
  refine wpM_val ?ua2 rfl rfl Ext.refl (fun w' hD => ?ha2) ?na2
  case ha2 =>
    have d0 := FX.out w' hD.1
    go_simp; rfl
  simp only [Act.put, List.setIfInBounds_toArray, List.set_cons_succ, List.set_cons_zero, Nat.reduceAdd]
  refine wpM_val ?ua3 rfl rfl Ext.refl (fun w' hD => ?ha3) ?na3
  case ha3 =>
    have d0 := FX.out w' hD.1
    go_simp; rfl
  simp only [Act.put, List.setIfInBounds_toArray, List.set_cons_succ, List.set_cons_zero, Nat.reduceAdd]
  refine wpM_val ?ua4 rfl rfl Ext.refl (fun w' hD => ?ha4) ?na4
  case ha4 =>
    have d0 := FX.out w' hD.1
    go_simp; rfl
  simp only [Act.put, List.setIfInBounds_toArray, List.set_cons_succ, List.set_cons_zero, Nat.reduceAdd]
  refine wpM_val ?ua5 rfl rfl Ext.refl (fun w' hD => ?ha5) ?na5
  case ha5 =>
    have d0 := FX.out w' hD.1
    go_simp; rfl
  simp only [Act.put, List.setIfInBounds_toArray, List.set_cons_succ, List.set_cons_zero, Nat.reduceAdd]
  refine wpM_val ?ua6 rfl rfl Ext.refl (fun w' hD => ?ha6) ?na6
  case ha6 =>
    have d0 := FX.out w' hD.1
    go_simp; rfl
  simp only [Act.put, List.setIfInBounds_toArray, List.set_cons_succ, List.set_cons_zero, Nat.reduceAdd]
  refine wpM_op _ rfl rfl (opens_call ?fa7 ?ga7 (fun w' hD => ?ha7) (fun w' hD => ?ca7)) (fun v7 hv7 => ?na7)
  case ha7 => go_simp; constructor <;> rfl
  case ca7 =>
    have hI' := (HI.out.ext hD.1)
    have K := clone_int (some ⟨D, 4, none⟩) 8 (rowG g n) w' hI' (by rw [rowG_len]; omega)
    rw [rowG_len] at K
    refine K.mono ?_
    rintro e w2 ⟨A', c', rfl, ho, -, hx⟩
    exact ⟨_, rfl, hx, A', c', rfl, Rd.of_own ho⟩
  obtain ⟨_, -, -, A', c', rfl, -⟩ := hv7
  simp only [Act.put, List.setIfInBounds_toArray, List.set_cons_succ, List.set_cons_zero, Nat.reduceAdd]
  refine wpM_val ?ua8 rfl rfl Ext.refl (fun w' hD => ?ha8) ?na8
  case ha8 =>
    have d0 := FX.out w' hD.1
    go_simp; rfl
  simp only [Act.put, List.setIfInBounds_toArray, List.set_cons_succ, List.set_cons_zero, Nat.reduceAdd]
  refine wpM_nil ?_
  intro w9 hw9 hF9
  have hx9 := hx1.trans hw9
  have hI9 : Ints w9 A' (rowG g n) := by
    obtain ⟨-, A2, c2, e2, h2⟩ := hF9 7
    cases e2; exact h2
  clear hF9 FX
  go_wp2_with fail
  have K := containsI_any 1099511627776 A' c' (rowG g n) w9 hI9 (by rw [rowG_len]; omega)
  rw [rowG_len] at K
  refine K.mono ?_
  rintro e w10 ⟨rfl, rfl⟩
  have HR := hid hI9
  cases hm : memI 1099511627776 (rowG g n)
  · have HF3 : Hid ((0 : Int) = F) := by have := HF2.out; rw [hm] at this; exact this
    go_wp2
    go_ret2
    exact ⟨.slice A' n c', (by rw [← HF3.out]; rfl), hx9, fun _ => ⟨A', c', rfl, by rw [HG.out]; exact HR.out⟩, fun h => absurd HF3.out.symm h⟩
  · have HF3 : Hid ((6 : Int) = F) := by have := HF2.out; rw [hm] at this; exact this
    go_wp2
    go_ret2
    exact ⟨.slice none 0 0, (by rw [← HF3.out]; rfl), hx9, fun h => absurd (HF3.out.trans h) (by decide), fun _ => rfl⟩
end Go.Proofs.Ytgnjhaomlbkgcaa

namespace Go.Proofs.Ytgnjhaomlbkgcaa
open Go Go.RowKit
set_option linter.unusedVariables false
set_option linter.unusedSimpArgs false

/-- The error of minutes. -/
def minutesC (c : Cs) (l : List Int) : Int := if checkC c ≠ 0 then checkC c else if (l.length : Int) ≠ c.ev then 2 else if l.all (fun i => inB i (-10000) 10000) then 0 else 3
theorem minutesC_ok {c : Cs} {l : List Int} (h : minutesC c l = 0) : checkC c = 0 ∧ (l.length : Int) = c.ev ∧ ∀ x ∈ l, -10000 ≤ x ∧ x ≤ 10000 := by
  unfold minutesC at h
  by_cases h0 : checkC c = 0
  · rw [if_neg (by simp [h0])] at h
    by_cases h1 : (l.length : Int) = c.ev
    · rw [if_neg (by simp [h1])] at h
      cases h2 : l.all (fun i => inB i (-10000) 10000)
      · rw [h2] at h; cases h
      · exact ⟨h0, h1, fun x hx => inB_iff.1 (List.all_eq_true.1 h2 x hx)⟩
    · rw [if_pos h1] at h; cases h
  · rw [if_pos h0] at h; exact absurd h h0
/-- The numbers of the bounds that do not hold. -/
def brk (l : List Int) (ps : List (Nat × Bd)) : List Int := (ps.filter fun x => !bdHolds l x.2).map fun x => (x.1 : Int)
def brkC (c : Cs) (l : List Int) : List Int := brk l (numFrom 0 c.all)
theorem brk_app (l : List Int) (ps qs : List (Nat × Bd)) : brk l (ps ++ qs) = brk l ps ++ brk l qs := by simp [brk]
theorem brk_no {l : List Int} {p : Nat × Bd} (h : bdHolds l p.2 = true) : brk l [p] = [] := by simp [brk, h]
theorem brk_yes {l : List Int} {p : Nat × Bd} (h : bdHolds l p.2 = false) : brk l [p] = [(p.1 : Int)] := by simp [brk, h]
theorem brk_len (l : List Int) (ps : List (Nat × Bd)) : (brk l ps).length ≤ ps.length := by
  unfold brk
  rw [List.length_map]
  exact List.length_filter_le _ _
theorem brk_nil {l : List Int} {ps : List (Nat × Bd)} (h : ∀ p ∈ ps, bdHolds l p.2 = true) : brk l ps = [] := by
  unfold brk
  rw [List.filter_eq_nil_iff.2 (fun p hp => by rw [h p hp]; simp)]
  rfl
theorem numFrom_take (n : Nat) {L : List Bd} {k : Nat} {x : Bd} (h : L[k]? = some x) : numFrom n (L.take (k + 1)) = numFrom n (L.take k) ++ [(n + k, x)] := by
  rw [take_next h, numFrom_app]
  have hk : k < L.length := (List.getElem?_eq_some_iff.1 h).1
  rw [List.length_take, Nat.min_eq_left (by omega)]
  rfl
theorem numFrom_mem2 {l : List Bd} {n : Nat} {p : Nat × Bd} (h : p ∈ numFrom n l) : p.2 ∈ l := by
  rw [← numFrom_snd' l n]
  exact List.mem_map.2 ⟨p, h, rfl⟩
theorem min_in {c : Cs} {l : List Int} (h0 : checkC c = 0) (hl : (l.length : Int) = c.ev) : ∀ b ∈ c.all, bdIn l.length b := fun b hb => by
  have e1 := evOK_get (checkC_ok h0).2.2.1 hb
  have e2 := limOK_get (checkC_ok h0).2.1 hb
  exact ⟨by omega, by omega, by omega⟩
/-- The error of Broken. -/
def brokenC (c : Cs) (l : List Int) : Int := if minutesC c l ≠ 0 then minutesC c l else if l.getD 0 0 ≠ 0 then 8 else 0

theorem sum_ge : ∀ (n : Nat) (L : List Bd) (is : List Int) (at_ at2 s s' : Int), (∀ b ∈ L, -1000 ≤ b.m) → is.length ≤ n → alongC L at_ s is = some (at2, s') → s - 1000 * n ≤ s' := by
  intro n
  induction n with
  | zero =>
    intro L is at_ at2 s s' _ hl h
    obtain rfl : is = [] := List.eq_nil_of_length_eq_zero (by omega)
    simp [alongC] at h
    omega
  | succ n ih =>
    intro L is at_ at2 s s' hL hl h
    cases is with
    | nil => simp [alongC] at h; omega
    | cons i is =>
      unfold alongC at h
      split at h
      · rename_i b hb
        split at h
        · have h1 := ih L is _ _ _ _ hL (by simpa using hl) h
          have h2 := hL b (List.mem_of_getElem? hb)
          omega
        · cases h
      · cases h
theorem told_clash {c : Cs} (h : toldC c = 0) : clashM (gapsM allT c) = false := by
  have h0 := toldC_check h
  unfold toldC at h
  rw [if_pos h0] at h
  cases hq : clashM (gapsM allT c) with
  | false => rfl
  | true => rw [hq, if_pos rfl] at h; cases h
theorem gap_ge {c : Cs} (h : toldC c = 0) {a b : Nat} (ha : a < c.ev.toNat) (hb : b < c.ev.toNat) : -7000 ≤ gapsM allT c a b := by
  have h0 := toldC_check h
  have hf := fine_of h0 (told_clash h)
  rw [belL_all] at hf
  by_cases hn : gapsM allT c a b = far
  · rw [hn]; decide
  · have hr := row_ok h0 hf (a := a) (b := b) (by omega) (by omega) hn
    have := sum_ge 7 c.all _ _ _ _ _ (fun b hb => (limOK_get (checkC_ok h0).2.1 hb).1) hr.len hr.sum
    omega
theorem colMin_ge7 {c : Cs} (h : toldC c = 0) {x : Nat} (hx : x < c.ev.toNat) : -7000 ≤ colMin (gapsM allT c) x c.ev.toNat := by
  rcases colMin_is (gapsM allT c) x c.ev.toNat with h1 | ⟨i, hi, h1⟩
  · omega
  · have := gap_ge h hi hx
    omega
theorem truth_min {c : Cs} (h : toldC c = 0) : minutesC c (truthL c) = 0 ∧ brkC c (truthL c) = [] := by
  have h0 := toldC_check h
  have hev := checkC_ev h0
  obtain ⟨h1, h2, h3⟩ := truth_ok h
  refine ⟨?_, brk_nil fun p hp => ?_⟩
  · unfold minutesC
    rw [if_neg (by simp [h0]), if_neg (by rw [truthL_len]; simp; omega), if_pos]
    rw [List.all_eq_true]
    intro x hx
    unfold truthL at hx
    obtain ⟨k, hk, rfl⟩ := List.mem_map.1 hx
    rw [List.mem_range] at hk
    have h4 := colMin_ge7 h hk
    have h5 := colMin_ge7 h (x := 0) (by omega)
    have h6 := (colMin_le (gapsM allT c) k c.ev.toNat).1
    have h7 := (colMin_le (gapsM allT c) 0 c.ev.toNat).1
    exact inB_iff.2 ⟨by omega, by omega⟩
  · have := h3 p.2 (numFrom_mem2 hp)
    unfold bdHolds
    simpa using this

/-- The flags and sums of the reference's row from the beginning. -/
theorem latest_ref {c : Cs} (h : toldC c = 0) {tf : Int → Bool} (ht : gapsM tf c = gapsM allT c) :
    (∀ j, j < c.ev.toNat → ((gapsR tf c 0).1.is j = true)) → latestC c = 0 ∧ rl c.ev.toNat (gapsR tf c 0).1.sm = rowG (gapsM allT c) c.ev.toNat := by
  intro hj
  have h0 := toldC_check h
  have hev := checkC_ev h0
  have hc := told_clash h
  rw [← ht] at hc
  have key : ∀ j, j < c.ev.toNat → gapsM allT c 0 j ≠ far ∧ (gapsR tf c 0).1.sm j = gapsM allT c 0 j := fun j hjn => by
    obtain ⟨p1, p2⟩ := gapR_is h0 hc (a := 0) (b := j) (by omega) (by omega)
    unfold gapR at p1 p2
    rw [hj j hjn, ht] at p1
    rw [ht] at p2
    have h1 : gapsM allT c 0 j ≠ far := by simpa using p1.symm
    exact ⟨h1, p2 h1⟩
  constructor
  · unfold latestC
    rw [if_neg (by simp [h]), if_neg]
    unfold memI rowG
    rw [Bool.not_eq_true, List.any_eq_false]
    intro x hx
    obtain ⟨j, hjm, rfl⟩ := List.mem_map.1 hx
    have := (key j (List.mem_range.1 hjm)).1
    unfold far at this
    simpa using fun e => this e.symm
  · unfold rl rowG
    exact List.map_congr_left fun j hjm => (key j (List.mem_range.1 hjm)).2
theorem latest_none {c : Cs} (h : toldC c = 0) {tf : Int → Bool} (ht : gapsM tf c = gapsM allT c) {j : Nat} (hj : j < c.ev.toNat) (hi : (gapsR tf c 0).1.is j = false) : latestC c = 6 := by
  have h0 := toldC_check h
  have hev := checkC_ev h0
  have hc := told_clash h
  rw [← ht] at hc
  obtain ⟨p1, p2⟩ := gapR_is h0 hc (a := 0) (b := j) (by omega) (by omega)
  unfold gapR at p1
  rw [hi, ht] at p1
  have h1 : gapsM allT c 0 j = far := by simpa using p1.symm
  unfold latestC
  rw [if_neg (by simp [h]), if_pos]
  unfold memI rowG
  rw [List.any_eq_true]
  refine ⟨gapsM allT c 0 j, List.mem_map.2 ⟨j, List.mem_range.2 hj, rfl⟩, ?_⟩
  rw [h1]
  decide
end Go.Proofs.Ytgnjhaomlbkgcaa

namespace Go.Proofs.Ytgnjhaomlbkgcaa
open Go Go.RowKit
set_option linter.unusedVariables false
set_option linter.unusedSimpArgs false

set_option maxRecDepth 100000 in
set_option maxHeartbeats 2000000 in
theorem refminutes_any (v : Value) (c : Cs) (A : Option Addr) (k0 : Nat) (l : List Int) (w : World) (hc : CsR w v c) (hs : c.sized) (hA : Ints w A l) (hl : l.length ≤ 9223372036854775807) :
    Calls Try.prog 60 #[v, .slice A l.length k0] w fun e w' => e = .returned (.int .i64 (minutesC c l)) ∧ Ext w w' := by
  have hc' := hc
  obtain ⟨A1, c1, A2, c2, rfl, hB, hC⟩ := hc
  obtain ⟨W0, hW0⟩ : ∃ W0, w.alloc (.cells #[.int .i64 c.ev, .slice A1 c.bs.length c1, .int .i64 c.wi, .slice A2 c.cl.length c2] 72) = W0 := ⟨_, rfl⟩
  have hx0 : Ext w W0 := by rw [← hW0]; exact Ext.alloc (Ext.refl w) _
  have FX : Hid (∀ w', Ext W0 w' → w'.cell? ⟨w.heap.size, 0, none⟩ = some (.int .i64 c.ev) ∧ w'.cell? ⟨w.heap.size, 1, none⟩ = some (.slice A1 c.bs.length c1) ∧ w'.cell? ⟨w.heap.size, 2, none⟩ = some (.int .i64 c.wi) ∧ w'.cell? ⟨w.heap.size, 3, none⟩ = some (.slice A2 c.cl.length c2)) := fun w' h => ⟨h.cell (by rw [← hW0]; simp [go_sem]), h.cell (by rw [← hW0]; simp [go_sem]), h.cell (by rw [← hW0]; simp [go_sem]), h.cell (by rw [← hW0]; simp [go_sem])⟩
  obtain ⟨q0, q1, q2, q3⟩ := FX.out W0 (Ext.refl _)
  have K1 := refcheck_any _ c W0 (hc'.ext hx0) hs
  have HF : Hid (minutesC c l = if checkC c ≠ 0 then checkC c else if (l.length : Int) ≠ c.ev then 2 else if l.all (fun i => inB i (-10000) 10000) then 0 else 3) := rfl
  obtain ⟨R, hR⟩ : ∃ R, minutesC c l = R := ⟨_, rfl⟩
  obtain ⟨K0, hK0⟩ : ∃ K0, checkC c = K0 := ⟨_, rfl⟩
  rw [hR, hK0] at HF
  rw [hR]
  rw [hK0] at K1
  clear hR hK0 hB hC
  go_enter Try.func60, Try.ntmps60
  go_wp2_with fail
  clear hW0 q0 q1 q2 q3
  refine K1.mono ?_
  clear K1
  rintro e w1 ⟨rfl, hb1⟩
  have hx1 := hx0.trans hb1
  obtain ⟨q0, q1, q2, q3⟩ := FX.out w1 hb1
  by_cases h0 : K0 = 0
  case neg =>
    have HE : Hid (R = K0) := by unfold Hid; rw [HF.out, if_pos h0]
    have b3 : (K0 != 0) = true := by simpa using h0
    clear HF
    go_wp2
    go_ret
    exact ⟨ret_of (int_of HE.out.symm), hx1⟩
  subst h0
  by_cases hlen : (l.length : Int) = c.ev
  case neg =>
    have HE : Hid (R = 2) := by unfold Hid; rw [HF.out, if_neg (by simp), if_pos hlen]
    have b3 : ((l.length : Int) != c.ev) = true := by simpa using hlen
    clear HF
    go_wp2
    go_ret
    exact ⟨ret_of (int_of HE.out.symm), hx1⟩
  have HE : Hid (R = if l.all (fun i => inB i (-10000) 10000) then 0 else 3) := by unfold Hid; rw [HF.out, if_neg (by simp), if_neg (by simp [hlen])]
  rw [← hlen] at q0
  clear HF FX q1 q2 q3
  go_wp2
  clear q0
  go_loopw [6] (fun i wr => ∃ k : Nat, k ≤ l.length ∧ i = .int .i64 (k : Int) ∧ Ext w1 wr ∧ Hid ((l.take k).all (fun i => inB i (-10000) 10000) = true)) (fun i _ => l.length - (intOf i).toNat)
  case atStart => exact ⟨0, Nat.zero_le _, rfl, Ext.refl _, rfl⟩
  case round =>
    obtain ⟨k, hk, rfl, hx, HQ⟩ := hrel
    by_cases hlt : k < l.length
    · have hlt' : (k : Int) < (l.length : Int) := by omega
      obtain ⟨x, hxk⟩ := get_of_lt l k hlt
      obtain ⟨b, off, rfl, g0⟩ := (hA.ext (hx1.trans hx)).at_ hxk
      have HX := hid hxk
      clear hxk
      go_wp2_with fail
      refine (off_any _ _ _ _).mono ?_
      rintro e w2 ⟨rfl, rfl⟩
      cases hq : inB x (-10000) 10000
      · have H : Hid (R = 3) := by
          unfold Hid
          rw [HE.out, all_false HX.out hq]
          rfl
        go_wp2
        go_ret
        exact ⟨ret_of (int_of H.out.symm), hx1.trans hx⟩
      · have HQ2 : Hid ((l.take (k + 1)).all (fun i => inB i (-10000) 10000) = true) := all_take HQ.out HX.out hq
        clear HQ HX
        go_wp2
        go_roundw
        case rel => exact ⟨k + 1, by omega, by go_num, hx, HQ2⟩
        case measure => simp [intOf]; omega
    · have hlt' : ¬ (k : Int) < (l.length : Int) := by omega
      have H : Hid (R = 0) := by
        unfold Hid
        rw [HE.out, all_full HQ.out (by omega)]
        rfl
      clear HQ
      go_wp2
      go_ret
      exact ⟨ret_of (int_of H.out.symm), hx1.trans hx⟩

set_option maxRecDepth 100000 in
set_option maxHeartbeats 2000000 in
theorem refbroken_any (v : Value) (c : Cs) (A : Option Addr) (k0 : Nat) (l : List Int) (w : World) (hc : CsR w v c) (hs : c.sized) (hA : Ints w A l) (h0 : checkC c = 0) (hlen : (l.length : Int) = c.ev) (hm : ∀ x ∈ l, -1000000 ≤ x ∧ x ≤ 1000000) :
    Calls Try.prog 61 #[v, .slice A l.length k0] w fun e w' => ∃ A' c', e = .returned (.slice A' (brkC c l).length c') ∧ Ints w' A' (brkC c l) ∧ Ext w w' := by
  have hc' := hc
  obtain ⟨A1, c1, A2, c2, rfl, hB, hC⟩ := hc
  have HIN := hid (min_in h0 hlen)
  have HLM := hid hm
  obtain ⟨z1, z2⟩ := sized_all h0
  have h52 := checkC_52 h0
  obtain ⟨W0, hW0⟩ : ∃ W0, w.alloc (.cells #[.int .i64 c.ev, .slice A1 c.bs.length c1, .int .i64 c.wi, .slice A2 c.cl.length c2] 72) = W0 := ⟨_, rfl⟩
  have hx0 : Ext w W0 := by rw [← hW0]; exact Ext.alloc (Ext.refl w) _
  have FX : Hid (∀ w', Ext W0 w' → w'.cell? ⟨w.heap.size, 0, none⟩ = some (.int .i64 c.ev) ∧ w'.cell? ⟨w.heap.size, 1, none⟩ = some (.slice A1 c.bs.length c1) ∧ w'.cell? ⟨w.heap.size, 2, none⟩ = some (.int .i64 c.wi) ∧ w'.cell? ⟨w.heap.size, 3, none⟩ = some (.slice A2 c.cl.length c2)) := fun w' h => ⟨h.cell (by rw [← hW0]; simp [go_sem]), h.cell (by rw [← hW0]; simp [go_sem]), h.cell (by rw [← hW0]; simp [go_sem]), h.cell (by rw [← hW0]; simp [go_sem])⟩
  obtain ⟨q0, q1, q2, q3⟩ := FX.out W0 (Ext.refl _)
  have K1 := refall_any _ c W0 (hc'.ext hx0) z1 hs
  have HF : Hid (brkC c l = brk l (numFrom 0 c.all)) := rfl
  obtain ⟨R, hR⟩ : ∃ R, brkC c l = R := ⟨_, rfl⟩
  obtain ⟨L, hL⟩ : ∃ L, c.all = L := ⟨_, rfl⟩
  rw [hR, hL] at HF
  rw [hR]
  rw [hL] at K1 HIN h52
  clear hR hL hB hC hm h0 z1 z2 hlen
  go_enter Try.func61, Try.ntmps61
  go_wp2_with fail
  clear hW0 q0 q1 q2 q3
  refine K1.mono ?_
  clear K1
  rintro e w1 ⟨A3, c3, rfl, ho, hb1⟩
  have hBo : Bounds w1 A3 L := Rd.of_own ho
  have hx1 := hx0.trans hb1
  clear ho FX
  go_wp2
  go_loopw [5, 7] (fun s i wr => ∃ (k : Nat) (A' : Option Addr) (c' : Nat), k ≤ L.length ∧ i = .int .i64 (k : Int) ∧ s = .slice A' (brk l (numFrom 0 (L.take k))).length c' ∧ Ext w1 wr ∧ Hid (wr.ownsRow w1.heap.size 3 1 (.slice A' (brk l (numFrom 0 (L.take k))).length c') (brk l (numFrom 0 (L.take k))).length (icells (brk l (numFrom 0 (L.take k)))))) (fun _ i _ => L.length - (intOf i).toNat)
  case atStart => exact ⟨0, none, 0, Nat.zero_le _, rfl, rfl, Ext.refl _, own_nil _ _ _ _⟩
  case round =>
    obtain ⟨k, A', c', hk, rfl, rfl, hx, O⟩ := hrel
    have hxw := hx1.trans hx
    by_cases hlt : k < L.length
    · have hlt' : (k : Int) < (L.length : Int) := by omega
      obtain ⟨bd, hbd⟩ := get_of_lt L k hlt
      have hbk := HIN.out _ (mem_of_get hbd)
      have HT := hid (numFrom_take 0 hbd)
      obtain ⟨b3, o3, rfl, g0, g1, g2⟩ := (hBo.ext hx).at_ hbd
      obtain ⟨f, t, m⟩ := bd
      obtain ⟨⟨f0, f1⟩, ⟨t0, t1⟩, m0, m1⟩ := hbk
      simp only at f0 f1 t0 t1 m0 m1 g0 g1 g2
      obtain ⟨fn, rfl⟩ : ∃ k : Nat, f = k := ⟨f.toNat, by omega⟩
      obtain ⟨tn, rfl⟩ : ∃ k : Nat, t = k := ⟨t.toNat, by omega⟩
      obtain ⟨x, hxx⟩ := get_of_lt l fn (by omega)
      obtain ⟨y, hyy⟩ := get_of_lt l tn (by omega)
      have bx := HLM.out x (mem_of_get hxx)
      have by_ := HLM.out y (mem_of_get hyy)
      have HB : Hid (bdHolds l ⟨(fn : Int), (tn : Int), m⟩ = decide (y ≤ x + m)) := by
        unfold Hid bdHolds
        simp only [Int.toNat_natCast, List.getD_eq_getElem?_getD, hxx, hyy, Option.getD_some]
      obtain ⟨b1, o1, rfl, cx⟩ := (hA.ext hxw).at_ hxx
      obtain ⟨b2, o2, e2, cy⟩ := (hA.ext hxw).at_ hyy
      cases e2
      have hsub : IntKind.i64.wrap (y - x) = y - x := IntWalk.i64_in _ ⟨by omega, by omega⟩
      have hlen2 : (brk l (numFrom 0 (L.take k))).length ≤ k := by
        have h := brk_len l (numFrom 0 (L.take k))
        rw [numFrom_length, List.length_take] at h
        omega
      rw [Nat.zero_add] at HT
      clear hbd hxx hyy
      by_cases hgt : y - x > m
      · have HE : Hid (brk l (numFrom 0 (L.take (k + 1))) = brk l (numFrom 0 (L.take k)) ++ [(k : Int)]) := by
          unfold Hid; rw [HT.out, brk_app, brk_yes (p := (k, ⟨(fn : Int), (tn : Int), m⟩)) (by rw [HB.out, decide_eq_false_iff_not]; omega)]
        have hgtd : decide (y - x > m) = true := by simpa using hgt
        go_wp2
        go_quiet (fail)
        generalize hwq : World.drewN wr _ = wq
        have hxq : Ext wr wq := by rw [← hwq]; exact (Ext.refl wr).drewN _
        have hxo := Ext.alloc (Ext.refl wq) (.cells #[.int .i64 (k : Int)] 3)
        have hbase : w1.heap.size ≤ (wq.alloc (.cells #[.int .i64 (k : Int)] 3)).heap.size := by have := hx.size; have := hxq.size; have := hxo.size; omega
        have O2 := hid (own_below (own_below O.out hxq) hxo)
        have hFk : ((brk l (numFrom 0 (L.take k))).length + 1) * 8 ≤ 140737488355328 := by omega
        clear O hwq
        go_wp2_with (at_builtin; refine wpList_append_rd _ rfl _ _ 27 rfl elem_int w1.heap.size _ (brk l (numFrom 0 (L.take k))).length (icells (brk l (numFrom 0 (L.take k)))) rfl O2.out _ 1 1 (icells [(k : Int)]) rfl rfl (rd_block (heap_alloc_new wq _)) (icells_one _) hFk hbase ?_)
        intro A5 c5 w5 hown5 hbel5 hgr5 _
        have hx5 : Ext w1 w5 := Below.trans ((hx.trans hxq).trans hxo) (Below.mono hbel5 (by omega))
        have O5 : Hid (w5.ownsRow w1.heap.size 3 1 (.slice A5 (brk l (numFrom 0 (L.take (k + 1)))).length c5) (brk l (numFrom 0 (L.take (k + 1)))).length (icells (brk l (numFrom 0 (L.take (k + 1)))))) := by
          unfold Hid; rw [HE.out, icells_app, List.length_append]; exact hown5
        clear hown5 hbel5 hgr5 O2 hxo
        go_wp2
        go_roundw
        case rel => exact ⟨k + 1, A5, c5, by omega, by go_num, by rw [HE.out, List.length_append]; rfl, hx5, O5⟩
        case measure => simp [intOf]; omega
      · have HE : Hid (brk l (numFrom 0 (L.take (k + 1))) = brk l (numFrom 0 (L.take k))) := by
          unfold Hid; rw [HT.out, brk_app, brk_no (p := (k, ⟨(fn : Int), (tn : Int), m⟩)) (by rw [HB.out, decide_eq_true_eq]; omega), List.append_nil]
        have hgtd : decide (y - x > m) = false := by simpa using hgt
        go_wp2
        go_quiet (fail)
        generalize hwq : World.drewN wr _ = wq
        have hxq : Ext wr wq := by rw [← hwq]; exact (Ext.refl wr).drewN _
        have O5 : Hid (wq.ownsRow w1.heap.size 3 1 (.slice A' (brk l (numFrom 0 (L.take (k + 1)))).length c') (brk l (numFrom 0 (L.take (k + 1)))).length (icells (brk l (numFrom 0 (L.take (k + 1)))))) := by
          unfold Hid; rw [HE.out]; exact own_below O.out hxq
        clear O hwq
        go_wp2
        go_roundw
        case rel => exact ⟨k + 1, A', c', by omega, by go_num, by rw [HE.out], hx.trans hxq, O5⟩
        case measure => simp [intOf]; omega
    · have hlt' : ¬ (k : Int) < (L.length : Int) := by omega
      have HE : Hid (brk l (numFrom 0 (L.take k)) = R) := by
        unfold Hid; rw [HF.out, List.take_of_length_le (by omega)]
      rw [HE.out] at O
      rw [HE.out]
      go_wp2
      go_ret
      exact ⟨A', ⟨c', rfl⟩, Rd.of_own O.out, hxw⟩
end Go.Proofs.Ytgnjhaomlbkgcaa

namespace Go.Proofs.Ytgnjhaomlbkgcaa
open Go Go.RowKit Go.Shelf
set_option linter.unusedVariables false
set_option linter.unusedSimpArgs false
attribute [local go_sem] Oper.semAt_some

set_option maxRecDepth 100000 in
set_option maxHeartbeats 2000000 in
theorem broken_none (v : Value) (c : Cs) (A : Option Addr) (k : Nat) (l : List Int) (w : World) (hc : CsR w v c) (hs : c.sized) (hA : Ints w A l) (h52 : c.all.length ≤ 52) (hl : ∀ x ∈ l, -1000000 ≤ x ∧ x ≤ 1000000) (hin : ∀ b ∈ c.all, bdIn l.length b) (hall : ∀ b ∈ c.all, bdHolds l b = true) :
    Calls Try.prog 118 #[v, .slice A l.length k] w fun e w' => e = .returned (.slice none 0 0) ∧ Ext w w' := by
  obtain ⟨A1, c1, A2, c2, rfl, hB, hC⟩ := hc
  have HL := hid hl
  have HIN := hid hin
  have HALL := hid hall
  clear hl hin hall
  refine callsIn_wide (n := 9).1 ?_
  refine callsIn_of_wp_marks Try.func118 rfl trivial ?_ rfl
  simp only [Try.ntmps118, List.size_toArray, List.length_cons, List.length_nil, Nat.reduceAdd, Nat.reduceSub, Array.replicate_succ, Array.replicate_zero, List.push_toArray, List.append_toArray, List.nil_append, List.cons_append]
  gi_wp2
  obtain ⟨W0, hW0⟩ : ∃ W0, (((w.alloc (.cells #[.int .i64 c.ev, .slice A1 c.bs.length c1, .int .i64 c.wi, .slice A2 c.cl.length c2] 26)).alloc (.cells #[.slice A l.length k] 27)).alloc (.cells #[.slice none 0 0] 27)) = W0 := ⟨_, rfl⟩
  rw [hW0]
  have hX0 : Ext w W0 := by rw [← hW0]; exact ((Ext.refl w).alloc _ |>.alloc _).alloc _
  have hk0 : W0.cell? ⟨w.heap.size, 0, none⟩ = some (.int .i64 c.ev) := by rw [← hW0]; simp [go_sem]
  have hk1 : W0.cell? ⟨w.heap.size, 1, none⟩ = some (.slice A1 c.bs.length c1) := by rw [← hW0]; simp [go_sem]
  have hk2 : W0.cell? ⟨w.heap.size, 2, none⟩ = some (.int .i64 c.wi) := by rw [← hW0]; simp [go_sem]
  have hk3 : W0.cell? ⟨w.heap.size, 3, none⟩ = some (.slice A2 c.cl.length c2) := by rw [← hW0]; simp [go_sem]
  have hm0 : W0.cell? ⟨w.heap.size + 1, 0, none⟩ = some (.slice A l.length k) := by rw [← hW0]; simp [go_sem]
  have hD0 : W0.heap[w.heap.size + 1 + 1]? = some (.cells #[.slice none 0 0] 27 (0, 0)) := by
    rw [← hW0]
    have h := heap_alloc_new ((w.alloc (.cells #[.int .i64 c.ev, .slice A1 c.bs.length c1, .int .i64 c.wi, .slice A2 c.cl.length c2] 26)).alloc (.cells #[.slice A l.length k] 27)) (.cells #[.slice none 0 0] 27)
    simpa using h
  have hCb : W0.heap[w.heap.size]? = some (.cells #[.int .i64 c.ev, .slice A1 c.bs.length c1, .int .i64 c.wi, .slice A2 c.cl.length c2] 26 (0, 0)) := by
    rw [← hW0, Below.heap_alloc _ _ _ (by simp; omega), Below.heap_alloc _ _ _ (by simp)]
    exact World.alloc_heap_new _ _
  have hr0 : W0.cell? ⟨w.heap.size + 1 + 1, 0, none⟩ = some (.slice none 0 0) := by rw [← hW0]; simp [go_sem]
  have hz0 : W0.heap.size = w.heap.size + 3 := by rw [← hW0]; simp
  clear hW0
  have FX : Hid (∀ w', Ext W0 w' → w'.cell? ⟨w.heap.size, 0, none⟩ = some (.int .i64 c.ev) ∧ w'.cell? ⟨w.heap.size, 1, none⟩ = some (.slice A1 c.bs.length c1) ∧ w'.cell? ⟨w.heap.size, 2, none⟩ = some (.int .i64 c.wi) ∧ w'.cell? ⟨w.heap.size, 3, none⟩ = some (.slice A2 c.cl.length c2)) := fun w' h => ⟨h.cell hk0, h.cell hk1, h.cell hk2, h.cell hk3⟩
  refine wpIn_wide.2 ?_
  refine wp_region_opens Ext (fun w' => Ext W0 w') (fun | 1 => some (fun v _ => v = .agg #[.func (.func 148) #[] #[]]) | 2 => some (fun v w' => ∃ P1 P2, v = .func (.func 149) #[] #[.pointer (some ⟨P1, 0, none⟩), .pointer (some ⟨P2, 0, none⟩)] ∧ W0.heap.size ≤ P1 ∧ W0.heap.size ≤ P2 ∧ w'.cell? ⟨P1, 1, none⟩ = some (.slice A1 c.bs.length c1) ∧ w'.cell? ⟨P1, 3, none⟩ = some (.slice A2 c.cl.length c2) ∧ w'.cell? ⟨P2, 0, none⟩ = some (.func (.func 148) #[] #[])) | _ => none) (by kernel_rfl) (by kernel_rfl) (fun _ _ h k => h.trans k) ?hTa (Ext.drew (Ext.refl W0)) ?_
  case hTa =>
    intro i R hR
    match i, hR with
    | 1, hR => cases hR; exact fun _ _ _ h _ => h
    | 2, hR => cases hR; exact fun _ _ _ ⟨P1, P2, e1, e2, e3, e4, e5, e6⟩ k => ⟨P1, P2, e1, e2, e3, k.cell e4, k.cell e5, k.cell e6⟩
  refine wpM_val ?ua0 rfl rfl Ext.refl (fun w' hD => ?ha0) ?na0
  case ha0 =>
    obtain ⟨d0, d1, d2, d3⟩ := FX.out w' hD.1
    go_simp; rfl
  simp only [Act.put, List.setIfInBounds_toArray, List.set_cons_succ, List.set_cons_zero, Nat.reduceAdd]
  refine wpM_op _ rfl rfl (opens_call ?fa1 ?ga1 (fun w' hD => ?ha1) (fun w' hD => ?ca1)) (fun v1 hv1 => ?na1)
  case ha1 => go_simp; constructor <;> rfl
  case ca1 =>
    refine (everyone_any w').mono ?_
    rintro e w2 ⟨rfl, hb⟩
    exact ⟨_, rfl, hb, rfl⟩
  obtain ⟨_, _, _, rfl⟩ := hv1
  simp only [Act.put, List.setIfInBounds_toArray, List.set_cons_succ, List.set_cons_zero, Nat.reduceAdd]
  refine wpM_op _ rfl rfl (opens_call ?fa2 ?ga2 (fun w' hD => ?ha2) (fun w' hD => ?ca2)) (fun v2 hv2 => ?na2)
  case ha2 => go_simp; constructor <;> rfl
  case ca2 =>
    refine (believed_any _ _ (.func (.func 148) #[] #[]) c w' rfl ⟨_, _, _, rfl⟩ A1 A2 c1 c2 rfl).mono ?_
    rintro e w2 ⟨rfl, rfl⟩
    exact ⟨_, rfl, Ext.alloc (Ext.alloc (Ext.refl _) _) _, w'.heap.size, w'.heap.size + 1, rfl, hD.1.size, Nat.le_succ_of_le hD.1.size, by simp [go_sem], by simp [go_sem], by simp [go_sem]⟩
  obtain ⟨_, -, -, P1, P2, rfl, -⟩ := hv2
  simp only [Act.put, List.setIfInBounds_toArray, List.set_cons_succ, List.set_cons_zero, Nat.reduceAdd]
  refine wpM_nil ?_
  intro w9 hw9 hF9
  obtain ⟨-, Q1, Q2, e9, f1, f2, f3, f4, f5⟩ := hF9 2
  cases e9
  clear hF9 FX
  have hin0 := HIN.out
  have hsz9 := hw9.size
  have hx9 : Ext w w9 := hX0.trans hw9
  have hs1 : c.all.length ≤ 9223372036854775807 := by omega
  have hdd : w9.heap[w.heap.size]? = some (.cells #[.int .i64 c.ev, .slice A1 c.bs.length c1, .int .i64 c.wi, .slice A2 c.cl.length c2] 26 (0, 0)) := (Below.block hw9 _ (Array.getElem?_eq_some_iff.1 hCb).1).trans hCb
  have hrr := hw9.cell hr0
  have hmm := hw9.cell hm0
  clear hCb hr0 hD0 hm0 hk0 hk1 hk2 hk3 hin0
  gi_wp2
  refine wpIn_rangeFunc_ownH (F := Fence.wide) (n := 9) rfl (by omega) (gf := 149) (lb := #[.pointer (some ⟨P1, 0, none⟩), .pointer (some ⟨P2, 0, none⟩)]) rfl trivial (enters_of Try.func149 (by kernel_rfl) rfl)
    (believed_stops _ P1 P2 w.heap.size c allT (.func (.func 148) #[] #[]) w w9 A1 A2 c1 c2 hB hC (everyone_fn w) (by omega) (by omega) (by omega) hs1 hs.2.1 hx9.kc (by omega) f3 f4 f5) Cel.trans cel_b (Below.refl _ _) (fun _ => rfl)
    (fun pre W' => Bel w.heap.size w9 W') (fun _ _ _ => False)
    (own_bel (Nat.le_refl _)) (fun _ _ _ _ _ hs _ _ => hs) (Bel.refl _ _)
    (fun x a' W' => ∃ Bx, w9.heap.size ≤ Bx ∧ BdBox W' Bx x.1.2 ∧ a' = { tmps := #[.agg #[.int .i64 c.ev, .slice A1 c.bs.length c1, .int .i64 c.wi, .slice A2 c.cl.length c2], .slice A l.length k, .pointer (some ⟨w.heap.size, 0, none⟩), .pointer (some ⟨w.heap.size + 1, 0, none⟩), .slice none 0 0, .pointer (some ⟨w.heap.size + 1 + 1, 0, none⟩), .int .i64 (x.1.1 : Int), .pointer (some ⟨Bx, 0, none⟩), .agg #[.int .i64 c.ev, .slice A1 c.bs.length c1, .int .i64 c.wi, .slice A2 c.cl.length c2], .agg #[.func (.func 148) #[] #[]], .func (.func 149) #[] #[.pointer (some ⟨P1, 0, none⟩), .pointer (some ⟨P2, 0, none⟩)], .int .i64 (x.1.1 : Int), x.1.2.val, undef, undef, undef, undef, undef, undef, undef, undef, undef, undef, undef, undef, undef, undef, undef, undef, undef, undef, undef], defers := [] })
    (fun x a' _ X Y row hs hg hr => by obtain ⟨Bx, h1, h2, h3⟩ := hs; exact ⟨Bx, h1, own_bdbox _ Bx x.1.2 () X Y row h2 hg hr, h3⟩)
    ?assign ?body ?done ?stop
  case assign =>
    rintro lv pre x W' K hi2 hK
    have hs2 := hi2.size
    obtain ⟨⟨nn, ⟨f, t, m⟩⟩, hx⟩ := x
    simp only [encNB, Bd.val] at *
    gi_wp2
    refine hK _ _ ((KeepsOthers.alloc _ _).from _) (Ext.cel (Ext.alloc (Ext.refl _) _)) (hi2.trans (Ext.bel (Ext.alloc (Ext.refl _) _))) ⟨W'.heap.size, by omega, World.alloc_heap_new _ _, ?_⟩
    rfl
  case body =>
    rintro lv pre x a' W' hl ⟨r, hr⟩ hb2 ⟨Bx, hBx, hXb, rfl⟩ hlt2
    obtain ⟨⟨nn, ⟨f, t, m⟩⟩, hx⟩ := x
    have hbL : (⟨f, t, m⟩ : Bd) ∈ c.all := bel_mem' (List.mem_map.2 ⟨_, hx, rfl⟩)
    have hbk := HIN.out _ hbL
    have hho := HALL.out _ hbL
    obtain ⟨⟨f0, f1⟩, ⟨t0, t1⟩, m0, m1⟩ := hbk
    simp only at f0 f1 t0 t1 m0 m1
    obtain ⟨fn, rfl⟩ : ∃ k : Nat, f = k := ⟨f.toNat, by omega⟩
    obtain ⟨tn, rfl⟩ : ∃ k : Nat, t = k := ⟨t.toNat, by omega⟩
    obtain ⟨x, hxx⟩ := get_of_lt l fn (by omega)
    obtain ⟨y, hyy⟩ := get_of_lt l tn (by omega)
    have bx := HL.out x (mem_of_get hxx)
    have by_ := HL.out y (mem_of_get hyy)
    have hle : y ≤ x + m := by
      unfold bdHolds at hho
      simp only [Int.toNat_natCast, List.getD_eq_getElem?_getD, hxx, hyy, Option.getD_some] at hho
      simpa using hho
    have hxW : Ext w W' := hx9.then_bel (Nat.le_refl _) hb2
    obtain ⟨b1, o1, rfl, cx⟩ := (hA.ext hxW).at_ hxx
    obtain ⟨b2, o2, e2, cy⟩ := (hA.ext hxW).at_ hyy
    cases e2
    obtain ⟨e0, e1, e2⟩ := hXb.cells
    simp only at e0 e1 e2
    have qm := hb2.cell hmm (by simp)
    have hsum : IntKind.i64.wrap (x + m) = x + m := IntWalk.i64_in _ ⟨by omega, by omega⟩
    have hgt : ¬ y > x + m := by omega
    have hgtd : decide (y > x + m) = false := by simpa using hgt
    clear hA hxx hyy hho
    gi_wp2
    have FX : Hid (∀ w', Ext W' w' → w'.cell? ⟨Bx, 0, none⟩ = some (.int .i64 (fn : Int)) ∧ w'.cell? ⟨Bx, 1, none⟩ = some (.int .i64 (tn : Int)) ∧ w'.cell? ⟨Bx, 2, none⟩ = some (.int .i64 m) ∧ w'.cell? ⟨w.heap.size + 1, 0, none⟩ = some (.slice (some ⟨b1, o1, none⟩) l.length k) ∧
        w'.cell? ⟨b1, o1 + fn, none⟩ = some (.int .i64 x) ∧ w'.cell? ⟨b1, o1 + tn, none⟩ = some (.int .i64 y)) :=
      fun w' h => ⟨h.cell e0, h.cell e1, h.cell e2, h.cell qm, h.cell cx, h.cell cy⟩
    clear e0 e1 e2 qm cx cy
    refine wpIn_region_opens Ext (fun w' => Ext W' w') (fun _ => none) (by kernel_rfl) (by kernel_rfl) (fun _ _ h k => h.trans k) (fun i R h => by cases h) (Ext.drew (Ext.refl W')) ?_
    refine wpM_val ?ub0 rfl rfl Ext.refl (fun w2 hD => ?hb0) ?nb0
    case hb0 =>
      obtain ⟨d0, d1, d2, dm, dx, dy⟩ := FX.out w2 hD.1
      go_simp; rfl
    simp only [Act.put, List.setIfInBounds_toArray, List.set_cons_succ, List.set_cons_zero, Nat.reduceAdd]
    refine wpM_val ?ub1 rfl rfl Ext.refl (fun w2 hD => ?hb1) ?nb1
    case hb1 =>
      obtain ⟨d0, d1, d2, dm, dx, dy⟩ := FX.out w2 hD.1
      go_simp; rfl
    simp only [Act.put, List.setIfInBounds_toArray, List.set_cons_succ, List.set_cons_zero, Nat.reduceAdd]
    refine wpM_val ?ub2 rfl rfl Ext.refl (fun w2 hD => ?hb2) ?nb2
    case hb2 =>
      obtain ⟨d0, d1, d2, dm, dx, dy⟩ := FX.out w2 hD.1
      go_simp; rfl
    simp only [Act.put, List.setIfInBounds_toArray, List.set_cons_succ, List.set_cons_zero, Nat.reduceAdd]
    refine wpM_val ?ub3 rfl rfl Ext.refl (fun w2 hD => ?hb3) ?nb3
    case hb3 =>
      obtain ⟨d0, d1, d2, dm, dx, dy⟩ := FX.out w2 hD.1
      go_simp; rfl
    simp only [Act.put, List.setIfInBounds_toArray, List.set_cons_succ, List.set_cons_zero, Nat.reduceAdd]
    refine wpM_val ?ub4 rfl rfl Ext.refl (fun w2 hD => ?hb4) ?nb4
    case hb4 =>
      obtain ⟨d0, d1, d2, dm, dx, dy⟩ := FX.out w2 hD.1
      go_simp; rfl
    simp only [Act.put, List.setIfInBounds_toArray, List.set_cons_succ, List.set_cons_zero, Nat.reduceAdd]
    refine wpM_val ?ub5 rfl rfl Ext.refl (fun w2 hD => ?hb5) ?nb5
    case hb5 =>
      obtain ⟨d0, d1, d2, dm, dx, dy⟩ := FX.out w2 hD.1
      go_simp; rfl
    simp only [Act.put, List.setIfInBounds_toArray, List.set_cons_succ, List.set_cons_zero, Nat.reduceAdd]
    refine wpM_val ?ub6 rfl rfl Ext.refl (fun w2 hD => ?hb6) ?nb6
    case hb6 =>
      obtain ⟨d0, d1, d2, dm, dx, dy⟩ := FX.out w2 hD.1
      go_simp; rfl
    simp only [Act.put, List.setIfInBounds_toArray, List.set_cons_succ, List.set_cons_zero, Nat.reduceAdd]
    refine wpM_val ?ub7 rfl rfl Ext.refl (fun w2 hD => ?hb7) ?nb7
    case hb7 =>
      obtain ⟨d0, d1, d2, dm, dx, dy⟩ := FX.out w2 hD.1
      go_simp; rfl
    simp only [Act.put, List.setIfInBounds_toArray, List.set_cons_succ, List.set_cons_zero, Nat.reduceAdd]
    refine wpM_val ?ub8 rfl rfl Ext.refl (fun w2 hD => ?hb8) ?nb8
    case hb8 =>
      obtain ⟨d0, d1, d2, dm, dx, dy⟩ := FX.out w2 hD.1
      go_simp; rfl
    simp only [Act.put, List.setIfInBounds_toArray, List.set_cons_succ, List.set_cons_zero, Nat.reduceAdd]
    refine wpM_val ?ub9 rfl rfl Ext.refl (fun w2 hD => ?hb9) ?nb9
    case hb9 =>
      obtain ⟨d0, d1, d2, dm, dx, dy⟩ := FX.out w2 hD.1
      go_simp; rfl
    simp only [Act.put, List.setIfInBounds_toArray, List.set_cons_succ, List.set_cons_zero, Nat.reduceAdd]
    refine wpM_val ?ub10 rfl rfl Ext.refl (fun w2 hD => ?hb10) ?nb10
    case hb10 =>
      obtain ⟨d0, d1, d2, dm, dx, dy⟩ := FX.out w2 hD.1
      go_simp; rfl
    simp only [Act.put, List.setIfInBounds_toArray, List.set_cons_succ, List.set_cons_zero, Nat.reduceAdd]
    refine wpM_val ?ub11 rfl rfl Ext.refl (fun w2 hD => ?hb11) ?nb11
    case hb11 =>
      obtain ⟨d0, d1, d2, dm, dx, dy⟩ := FX.out w2 hD.1
      go_simp; rfl
    simp only [Act.put, List.setIfInBounds_toArray, List.set_cons_succ, List.set_cons_zero, Nat.reduceAdd]
    refine wpM_val ?ub12 rfl rfl Ext.refl (fun w2 hD => ?hb12) ?nb12
    case hb12 =>
      obtain ⟨d0, d1, d2, dm, dx, dy⟩ := FX.out w2 hD.1
      go_simp; rfl
    simp only [Act.put, List.setIfInBounds_toArray, List.set_cons_succ, List.set_cons_zero, Nat.reduceAdd]
    refine wpM_val ?ub13 rfl rfl Ext.refl (fun w2 hD => ?hb13) ?nb13
    case hb13 =>
      obtain ⟨d0, d1, d2, dm, dx, dy⟩ := FX.out w2 hD.1
      go_simp; rfl
    simp only [Act.put, List.setIfInBounds_toArray, List.set_cons_succ, List.set_cons_zero, Nat.reduceAdd]
    refine wpM_nil ?_
    intro x9 hx9q hF9
    have hb9 := hb2.trans (Ext.bel hx9q)
    gi_wp2
    exact ⟨⟨hx9q.size, fun kk o _ hk ho => (Below.block hx9q kk (Array.getElem?_eq_some_iff.1 hk).1).trans hk⟩, Ext.cel hx9q, hb9⟩
  case done =>
    rintro D3 xs W3 hD3 hxs hb3 hK3
    have hm3 := (Marks.nil w.heap.size w9).cons hb3 hdd hK3 hD3 (by omega)
    have hc3 := hb3.cell hrr (by simp; omega)
    gi_wp2
    refine leaves_marks (by simp) _ _ hm3 fun W' hb hc => ?_
    have hxx : Ext w W' := Below.trans (hx9.then_bel (Nat.le_refl _) hb3) hb
    first
      | exact ⟨_, results_tmp rfl _ _ _, rfl, hxx⟩
      | exact ⟨_, results_tmp rfl _ _ _, _, rfl, hxx⟩
  case stop =>
    rintro D c pre W _ _ h _
    exact h.elim
end Go.Proofs.Ytgnjhaomlbkgcaa

namespace Go.Proofs.Ytgnjhaomlbkgcaa
open Go Go.RowKit Go.Shelf
set_option linter.unusedVariables false
set_option linter.unusedSimpArgs false

theorem minutes1_fn (w : World) :
    FnP Try.prog (.func (.func 143) #[] #[]) w IntR anyx (fun i => inB i (-10000) 10000) := by
  refine ⟨_, _, _, rfl, enters_of Try.func143 (by kernel_rfl) rfl, fun x v2 W _ hW hR => ?_⟩
  obtain rfl : v2 = .int .i64 x := hR
  show Calls _ _ #[_] _ _
  go_enter Try.func143, Try.ntmps143
  go_wp2_with fail
  refine (in_any _ _ _ _).mono ?_
  rintro e w1 ⟨rfl, rfl⟩
  go_wp2
  go_ret
  exact ⟨rfl, Ext.refl _⟩

set_option maxRecDepth 100000 in
set_option maxHeartbeats 2000000 in
theorem minutes_yes (v : Value) (c : Cs) (A : Option Addr) (k : Nat) (l : List Int) (w : World) (hc : CsR w v c) (hs : c.sized) (hA : Ints w A l) (h0 : checkC c = 0) (hl : (l.length : Int) = c.ev) (hm : ∀ x ∈ l, -10000 ≤ x ∧ x ≤ 10000) :
    Calls Try.prog 117 #[v, .slice A l.length k] w fun e w' => e = .returned (.int .i64 0) ∧ Ext w w' := by
  have hc' := hc
  obtain ⟨A1, c1, A2, c2, rfl, hB, hC⟩ := hc
  have H0 := hid h0
  have HL := hid hl
  have HM := hid hm
  have hall : (l.all fun i => inB i (-10000) 10000) = true := List.all_eq_true.2 fun x hx => inB_iff.2 (hm x hx)
  have hev := checkC_ev h0
  clear hl hm
  go_enter Try.func117, Try.ntmps117
  go_wp2_with fail
  have hx0 : Ext w (w.alloc (.cells #[.int .i64 c.ev, .slice A1 c.bs.length c1, .int .i64 c.wi, .slice A2 c.cl.length c2] 26)) := Ext.alloc (Ext.refl w) _
  refine (check_any _ c _ (hc'.ext hx0) hs).mono ?_
  rintro e w1 ⟨rfl, hb1⟩
  have hx1 := hx0.trans hb1
  have kc0 := hb1.cell (p := ⟨w.heap.size, 0, none⟩) (u := .int .i64 c.ev) (by simp [go_sem])
  rw [h0]
  clear h0
  rw [← HL.out] at kc0
  go_wp2_with fail
  refine (every_int A k l _ anyx _ w1 (hA.ext hx1) (by have := HL.out; omega) (anyx_all _) (minutes1_fn w1)).mono ?_
  rintro e w2 ⟨rfl, hb2⟩
  rw [hall]
  go_wp2
  go_ret
  exact ⟨rfl, hx1.trans hb2⟩

set_option maxRecDepth 100000 in
set_option maxHeartbeats 2000000 in
theorem holdsw_yes (v : Value) (c : Cs) (A : Option Addr) (k : Nat) (l : List Int) (w : World) (hc : CsR w v c) (hs : c.sized) (hA : Ints w A l) (h0 : checkC c = 0) (hl : (l.length : Int) = c.ev) (hm : ∀ x ∈ l, -10000 ≤ x ∧ x ≤ 10000) (hz : l[0]? = some 0) (hall : ∀ b ∈ c.all, bdHolds l b = true) :
    Calls Try.prog 62 #[v, .slice A l.length k] w fun e w' => e = .returned (.tuple #[.bool true, .int .i64 0]) ∧ Ext w w' := by
  have hc' := hc
  obtain ⟨A1, c1, A2, c2, rfl, hB, hC⟩ := hc
  have HL := hid hl
  have HM := hid hm
  have HA := hid hall
  have H0 := hid h0
  have h52 := checkC_52 h0
  have hev := checkC_ev h0
  have hlen : (0 : Int) < (l.length : Int) := by omega
  have HIN : Hid (∀ b ∈ c.all, bdIn l.length b) := fun b hb => by
    have e1 := evOK_get (checkC_ok h0).2.2.1 hb
    have e2 := limOK_get (checkC_ok h0).2.1 hb
    exact ⟨by omega, by omega, by omega⟩
  clear hm hall hl h0
  have hx0 : Ext w (w.alloc (.cells #[.int .i64 c.ev, .slice A1 c.bs.length c1, .int .i64 c.wi, .slice A2 c.cl.length c2] 26)) := Ext.alloc (Ext.refl w) _
  go_enter Try.func62, Try.ntmps62
  go_wp2_with fail
  refine (minutes_yes _ c A k l _ (hc'.ext hx0) hs (hA.ext hx0) H0.out HL.out HM.out).mono ?_
  rintro e w1 ⟨rfl, hb1⟩
  have hx1 := hx0.trans hb1
  have kc0 := hb1.cell (p := ⟨w.heap.size, 0, none⟩) (u := .int .i64 c.ev) (by simp [go_sem])
  have kc1 := hb1.cell (p := ⟨w.heap.size, 1, none⟩) (u := .slice A1 c.bs.length c1) (by simp [go_sem])
  have kc2 := hb1.cell (p := ⟨w.heap.size, 2, none⟩) (u := .int .i64 c.wi) (by simp [go_sem])
  have kc3 := hb1.cell (p := ⟨w.heap.size, 3, none⟩) (u := .slice A2 c.cl.length c2) (by simp [go_sem])
  obtain ⟨b1, o1, rfl, cz⟩ := (hA.ext hx1).at_ hz
  rw [Nat.add_zero] at cz
  go_wp2_with fail
  refine (broken_none _ c _ k l w1 (hc'.ext hx1) hs (hA.ext hx1) h52 (fun x hx => by have := HM.out x hx; omega) HIN.out HA.out).mono ?_
  rintro e w2 ⟨rfl, hb2⟩
  go_wp2
  go_ret2
  exact ⟨rfl, hx1.trans hb2⟩
end Go.Proofs.Ytgnjhaomlbkgcaa

namespace Go.Proofs.Ytgnjhaomlbkgcaa
open Go Go.RowKit Go.Shelf
set_option linter.unusedVariables false
set_option linter.unusedSimpArgs false
attribute [local go_sem] Oper.semAt_some

/-- What the iterator asks of the loop's body. -/
structure YR (R : World → World → Prop) (w0 : World) (Bc Bt : Nat) : Prop where
  trans : ∀ {a b c : World}, R a b → R b c → R a c
  ext : ∀ {a b : World}, Ext a b → R a b
  kc : ∀ {a b : World}, Kc w0 a → R a b → Kc w0 b
  bc : ∀ {a b : World} {i : Nat} {u : Value}, R a b → a.cell? ⟨Bc, i, none⟩ = some u → b.cell? ⟨Bc, i, none⟩ = some u
  bt : ∀ {a b : World} {i : Nat} {u : Value}, R a b → a.cell? ⟨Bt, i, none⟩ = some u → b.cell? ⟨Bt, i, none⟩ = some u
  claim : ∀ {a b : World} {k : Nat} {cs : Array Value}, R a b → a.heap[k]? = some (.cells cs 37 (0, 0)) → b.heap[k]? = some (.cells cs 37 (0, 0))

set_option maxRecDepth 100000 in
set_option maxHeartbeats 4000000 in
theorem believed1_inR (n l Bc Bt : Nat) (R : World → World → Prop) (c : Cs) (tf : Int → Bool) (fv : Value) (w0 : World) (A1 A2 : Option Addr) (c1 c2 : Nat) (L : List (Nat × Bd)) (hL : belNum tf c = L) (J Jx : List (NB L) → World → Prop)
    (hB : Bounds w0 A1 c.bs) (hC : Claims w0 A2 c.cl) (hfv : FnP Try.prog fv w0 IntR anyx tf) (hRR : YR R w0 Bc Bt)
    (hs1 : c.all.length ≤ 9223372036854775807) (hs2 : c.cl.length ≤ 9223372036854775807)
    (hY : ∀ pre x W, J pre W → pre.length < L.length → YieldAt Fence.wide (n - 1) Try.prog l (encNB x) W fun e W' =>
      (e = .returned (.bool true) ∧ J (pre ++ [x]) W' ∧ R W W') ∨ (e = .returned (.bool false) ∧ Jx (pre ++ [x]) W'))
    (W : World) (hJ : AbidesFrom W.heap.size J) (hk0 : Kc w0 W)
    (k1 : W.cell? ⟨Bc, 1, none⟩ = some (.slice A1 c.bs.length c1)) (k3 : W.cell? ⟨Bc, 3, none⟩ = some (.slice A2 c.cl.length c2)) (kt : W.cell? ⟨Bt, 0, none⟩ = some fv) (h0 : J [] W) :
    CallsIn Fence.wide n Try.prog 149 #[.func (.yield l) #[] #[], .pointer (some ⟨Bc, 0, none⟩), .pointer (some ⟨Bt, 0, none⟩)] W fun e W' => (∃ v, e = .returned v) ∧
      ((∃ xs, xs.map (·.1) = L ∧ J xs W') ∨ (∃ pre, True ∧ Jx pre W')) := by
  have hall : c.bs.length ≤ c.all.length := by simp [Cs.all]
  have HR_ := hid hRR
  clear hRR
  have HL : Hid (numFrom (0 + 0) (c.bs.drop 0) ++ clNum tf c.bs.length c.cl = L) := by rw [← hL]; rfl
  have HY := hid hY
  have HJ := hid hJ
  obtain ⟨g, fst, lb, rfl, eg, hcall⟩ := hfv
  have HC := hid hcall
  clear hY hJ hcall
  refine callsIn_of_wp Try.func149 rfl trivial ?_ rfl
  simp only [Try.ntmps149, List.size_toArray, List.length_cons, List.length_nil, Nat.reduceAdd, Nat.reduceSub, Array.replicate_succ, Array.replicate_zero, List.push_toArray, List.append_toArray, List.nil_append, List.cons_append]
  gi_wp2
  gi_loopw [14] (fun i wr => ∃ (kk : Nat) (pre : List (NB L)), kk ≤ c.bs.length ∧ i = .int .i64 kk ∧ J pre wr ∧ Hid (pre.map (·.1) ++ (numFrom (0 + kk) (c.bs.drop kk) ++ clNum tf c.bs.length c.cl) = L) ∧ Kc w0 wr ∧
      wr.cell? ⟨Bc, 1, none⟩ = some (.slice A1 c.bs.length c1) ∧ wr.cell? ⟨Bc, 3, none⟩ = some (.slice A2 c.cl.length c2) ∧ wr.cell? ⟨Bt, 0, none⟩ = some (.func (.func g) fst lb))
    (fun i _ => c.bs.length - (intOf i).toNat)
  case atStart => exact ⟨0, [], Nat.zero_le _, rfl, h0, by simpa using HL, hk0, k1, k3, kt⟩
  case round =>
    obtain ⟨kk, pre, h1, rfl, hJ1, HP, hkr, q1, q3, qt⟩ := hrel
    by_cases hlt : kk < c.bs.length
    · have hlt' : (kk : Int) < (c.bs.length : Int) := by omega
      obtain ⟨x, hx⟩ := get_of_lt c.bs kk hlt
      have HX := hid hx
      clear hx
      obtain ⟨b, off, rfl, e0, e1, e2⟩ := (hB.kc hkr).at_ HX.out
      have HN := hid (numFrom_drop 0 c.bs kk x HX.out)
      have hmem : (kk, x) ∈ L := mem_of_eq HP.out (by rw [HN.out]; simp)
      have hlen : pre.length < L.length := len_of_eq HP.out (by rw [HN.out]; simp)
      obtain ⟨fn, tmps, assign, body, hy, hR⟩ := HY.out pre ⟨(kk, x), hmem⟩ (wr.alloc (.cells #[.int .i64 x.f, .int .i64 x.t, .int .i64 x.m] 35)) (abides_ext HJ.out hJ1 (Ext.alloc (Ext.refl wr) _)) hlen
      simp only [encNB, Bd.val] at hy
      gi_wp2
      refine ⟨fun h => (by cases h), hR.mono ?_⟩
      rintro e W3 (⟨rfl, hJ3, hk3⟩ | ⟨rfl, hJx3⟩)
      · have hkc : R wr W3 := HR_.out.trans (HR_.out.ext (Ext.alloc (Ext.refl wr) _)) hk3
        gi_wp2
        go_roundw
        case rel =>
          exact ⟨kk + 1, _, by omega, by go_num, hJ3, Eq.trans (by rw [HN.out]; simp) HP.out, HR_.out.kc hkr hkc, HR_.out.bc hkc q1, HR_.out.bc hkc q3, HR_.out.bt hkc qt⟩
        case measure => simp [intOf]; omega
      · gi_wp2
        refine bodyPost_ret (results_none rfl _ _ _) rfl ?_
        exact ⟨⟨_, rfl⟩, .inr ⟨_, trivial, hJx3⟩⟩
    · have hlt' : ¬ (kk : Int) < (c.bs.length : Int) := by omega
      have HP2 : Hid (pre.map (·.1) ++ (clNum tf c.bs.length (c.cl.drop 0)) = L) := Eq.trans (by rw [numFrom_end 0 c.bs kk (by omega)]; simp) HP.out
      clear HP
      gi_wp2
      gi_loopw [6, 31] (fun s6 s31 w2 => ∃ (k2 nn : Nat) (pre : List (NB L)), k2 ≤ c.cl.length ∧ s31 = .int .i64 k2 ∧ s6 = .int .i64 nn ∧ nn + ((c.cl.drop k2).flatMap (·.bs)).length ≤ 9223372036854775807 ∧ J pre w2 ∧ Hid (pre.map (·.1) ++ clNum tf nn (c.cl.drop k2) = L) ∧ Kc w0 w2 ∧
          w2.cell? ⟨Bt, 0, none⟩ = some (.func (.func g) fst lb))
        (fun _ i _ => c.cl.length - (intOf i).toNat)
      case atStart => exact ⟨0, c.bs.length, pre, Nat.zero_le _, rfl, rfl, by simpa [Cs.all] using hs1, hJ1, HP2, hkr, qt⟩
      case round =>
        obtain ⟨k2, nn, pre, h2, rfl, rfl, hnn, hJ2, HP3, hk2, qt2⟩ := hrel
        by_cases hlt2 : k2 < c.cl.length
        · have hlt2' : (k2 : Int) < (c.cl.length : Int) := by omega
          obtain ⟨x, hx⟩ := get_of_lt c.cl k2 hlt2
          have HX := hid hx
          obtain ⟨b, off, A3, c3, rfl, e00, e10, hB3⟩ := hC.at_ hx
          have e0 := hk2.cell e00
          have e1 := hk2.cell e10
          have hdr : c.cl.drop k2 = x :: c.cl.drop (k2 + 1) := by
            rw [List.drop_eq_getElem_cons hlt2, (List.getElem?_eq_some_iff.1 hx).2]
          have HDR := hid hdr
          rw [hdr] at hnn
          simp only [List.flatMap_cons, List.length_append] at hnn
          clear hdr hx
          have hx8 : Ext wr (wr.alloc (.cells #[.int .i64 x.w, .slice A3 x.bs.length c3] 37)) := Ext.alloc (Ext.refl wr) _
          have hJ8 := abides_ext HJ.out hJ2 hx8
          have HP8 : Hid (pre.map (·.1) ++ ((if tf x.w then numFrom (nn + 0) (x.bs.drop 0) else []) ++ clNum tf (nn + x.bs.length) (c.cl.drop (k2 + 1))) = L) := Eq.trans (by rw [HDR.out]; rfl) HP3.out
          have hk8 := hk2.trans hx8.kc
          have jb8 := World.alloc_heap_new wr (.cells #[.int .i64 x.w, .slice A3 x.bs.length c3] 37)
          have qt8 := hx8.cell qt2
          gi_wp2
          obtain ⟨wo, hwo⟩ : ∃ wo : World, wo = wr := ⟨_, rfl⟩
          subst hwo
          gi_loopw [38] (fun s38 w3 => ∃ (k3 : Nat) (pre : List (NB L)), k3 ≤ x.bs.length ∧ s38 = .int .i64 k3 ∧ J pre w3 ∧ Hid (pre.map (·.1) ++ ((if tf x.w then numFrom (nn + k3) (x.bs.drop k3) else []) ++ clNum tf (nn + x.bs.length) (c.cl.drop (k2 + 1))) = L) ∧ Kc w0 w3 ∧
              w3.cell? ⟨Bt, 0, none⟩ = some (.func (.func g) fst lb) ∧ Hid (w3.heap[wo.heap.size]? = some (.cells #[.int .i64 x.w, .slice A3 x.bs.length c3] 37 (0, 0))))
            (fun i _ => x.bs.length - (intOf i).toNat)
          case atStart => exact ⟨0, pre, Nat.zero_le _, rfl, hJ8, HP8, hk8, qt8, jb8⟩
          case round =>
            obtain ⟨k3, pre, h3, rfl, hJ3, HP4, hk3, qt3, jb⟩ := hrel
            have j80 := block_cell (i := 0) jb.out
            have j81 := block_cell (i := 1) jb.out
            simp only [List.getElem?_toArray, List.getElem?_cons_zero, List.getElem?_cons_succ] at j80 j81
            by_cases hlt3 : k3 < x.bs.length
            · have hlt3' : (k3 : Int) < (x.bs.length : Int) := by omega
              obtain ⟨y, hy0⟩ := get_of_lt x.bs k3 hlt3
              have HY0 := hid hy0
              clear hy0
              obtain ⟨b, off, rfl, e0, e1, e2⟩ := (hB3.kc hk3).at_ HY0.out
              have hx9 : Ext wr (wr.alloc (.cells #[.int .i64 y.f, .int .i64 y.t, .int .i64 y.m] 35)) := Ext.alloc (Ext.refl wr) _
              have f9 : ∀ o, (wr.alloc o).cell? ⟨Bt, 0, none⟩ = some (.func (.func g) fst lb) := fun o => (Ext.alloc (Ext.refl wr) o).cell qt3
              have f90 : ∀ o, (wr.alloc o).cell? ⟨wo.heap.size, 0, none⟩ = some (.int .i64 x.w) := fun o => (Ext.alloc (Ext.refl wr) o).cell j80
              have hk9 := hk3.trans hx9.kc
              have HN := hid (numFrom_drop nn x.bs k3 y HY0.out)
              gi_wp2_with fail
              refine ⟨trivial, fun h => (by cases h), (callsIn_wide.2 (HC.out x.w _ _ trivial hk9 rfl)).mono ?_⟩
              rintro e w5 ⟨rfl, hb5⟩
              have hx5 := hx9.trans hb5
              have m0 := hb5.cell (p := ⟨wr.heap.size, 0, none⟩) (u := .int .i64 y.f) (by simp [go_sem])
              have m1 := hb5.cell (p := ⟨wr.heap.size, 1, none⟩) (u := .int .i64 y.t) (by simp [go_sem])
              have m2 := hb5.cell (p := ⟨wr.heap.size, 2, none⟩) (u := .int .i64 y.m) (by simp [go_sem])
              have hJ5 := abides_ext HJ.out hJ3 hx5
              have hs5 := hx5.size
              cases hq : tf x.w
              · have HQ := hid hq
                clear hq
                gi_wp2
                refine ⟨fun _ h => (by cases h), ?_⟩
                gi_wp2
                go_roundw
                case rel => exact ⟨k3 + 1, pre, by omega, by go_num, hJ5, Eq.trans (by rw [HQ.out]; rfl) HP4.out, hk3.trans hx5.kc, hx5.cell qt3, (Below.block hx5 _ (Array.getElem?_eq_some_iff.1 jb.out).1).trans jb.out⟩
                case measure => simp [intOf]; omega
              · have HQ := hid hq
                clear hq
                have hmem : (nn + k3, y) ∈ L := mem_of_eq HP4.out (by rw [HQ.out, HN.out]; simp)
                have hlen : pre.length < L.length := len_of_eq HP4.out (by rw [HQ.out, HN.out]; simp)
                obtain ⟨fn, tmps, assign, body, hy, hR⟩ := HY.out pre ⟨(nn + k3, y), hmem⟩ w5 hJ5 hlen
                simp only [encNB, Bd.val, Int.natCast_add] at hy
                gi_wp2
                refine ⟨fun h => (by cases h), hR.mono ?_⟩
                rintro e W3 (⟨rfl, hJ3, hk3'⟩ | ⟨rfl, hJx3⟩)
                · have hkc : R wr W3 := HR_.out.trans (HR_.out.ext hx5) hk3'
                  gi_wp2
                  go_roundw
                  case rel =>
                    exact ⟨k3 + 1, _, by omega, by go_num, hJ3, Eq.trans (by rw [HQ.out, HN.out]; simp) HP4.out, HR_.out.kc hk3 hkc, HR_.out.bt hkc qt3, HR_.out.claim hkc jb.out⟩
                  case measure => simp [intOf]; omega
                · gi_wp2
                  refine bodyPost_ret (results_none rfl _ _ _) rfl ?_
                  exact ⟨⟨_, rfl⟩, .inr ⟨_, trivial, hJx3⟩⟩
            · have hlt3' : ¬ (k3 : Int) < (x.bs.length : Int) := by omega
              have HE : Hid (pre.map (·.1) ++ clNum tf (nn + x.bs.length) (c.cl.drop (k2 + 1)) = L) := Eq.trans (by rw [numFrom_end nn x.bs k3 (by omega)]; simp) HP4.out
              gi_wp2
              go_roundw
              case rel => exact ⟨k2 + 1, nn + x.bs.length, pre, by omega, by go_num, by go_num, by omega, hJ3, HE, hk3, qt3⟩
              case measure => simp [intOf]; omega
        · have hlt2' : ¬ (k2 : Int) < (c.cl.length : Int) := by omega
          have HE : Hid (pre.map (·.1) = L) := Eq.trans (by rw [List.drop_eq_nil_of_le (by omega)]; simp [clNum]) HP3.out
          gi_wp2
          go_end0
          exact ⟨⟨_, rfl⟩, .inl ⟨_, HE.out, hJ2⟩⟩

theorem believed_stopsR (n Bc Bt : Nat) (R : World → World → Prop) (c : Cs) (tf : Int → Bool) (fv : Value) (w0 w : World) (A1 A2 : Option Addr) (c1 c2 : Nat)
    (hB : Bounds w0 A1 c.bs) (hC : Claims w0 A2 c.cl) (hfv : FnP Try.prog fv w0 IntR anyx tf) (hRR : YR R w0 Bc Bt)
    (hs1 : c.all.length ≤ 9223372036854775807) (hs2 : c.cl.length ≤ 9223372036854775807) (hk0 : Kc w0 w)
    (k1 : w.cell? ⟨Bc, 1, none⟩ = some (.slice A1 c.bs.length c1)) (k3 : w.cell? ⟨Bc, 3, none⟩ = some (.slice A2 c.cl.length c2)) (kt : w.cell? ⟨Bt, 0, none⟩ = some fv) :
    SeqStopsK Fence.wide n Try.prog 149 #[.pointer (some ⟨Bc, 0, none⟩), .pointer (some ⟨Bt, 0, none⟩)] (encNB (L := belNum tf c)) R (fun xs => xs.map (·.1) = belNum tf c) (fun _ => True) (belNum tf c).length w :=
  fun l J Jx W hW hJ _ hY h0 => by
    have hW : Ext w W := hW
    exact believed1_inR n l Bc Bt R c tf fv w0 A1 A2 c1 c2 _ rfl J Jx hB hC hfv hRR hs1 hs2 hY W hJ (hk0.trans hW.kc) (hW.cell k1) (hW.cell k3) (hW.cell kt) h0

end Go.Proofs.Ytgnjhaomlbkgcaa

namespace Go.Proofs.Ytgnjhaomlbkgcaa
open Go Go.RowKit Go.Shelf
set_option linter.unusedVariables false
set_option linter.unusedSimpArgs false
attribute [local go_sem] Oper.semAt_some

/-- What a round of broken keeps: all cells below N but those of block O; all claims. -/
def KR (N O : Nat) (w w' : World) : Prop := w.heap.size ≤ w'.heap.size ∧ (∀ (p : Addr) (u : Value), p.block < N → p.block ≠ O → w.cell? p = some u → w'.cell? p = some u) ∧ ∀ (k : Nat) (cs : Array Value), w.heap[k]? = some (.cells cs 37 (0, 0)) → w'.heap[k]? = some (.cells cs 37 (0, 0))
theorem KR.trans {N O : Nat} {a b c : World} (h : KR N O a b) (k : KR N O b c) : KR N O a c := ⟨Nat.le_trans h.1 k.1, fun p u h1 h2 h3 => k.2.1 p u h1 h2 (h.2.1 p u h1 h2 h3), fun i cs hi => k.2.2 i cs (h.2.2 i cs hi)⟩
theorem KR.ext {N O : Nat} {a b : World} (h : Ext a b) : KR N O a b := ⟨h.size, fun p u _ _ h3 => h.cell h3, fun i cs hi => (Below.block h i (Array.getElem?_eq_some_iff.1 hi).1).trans hi⟩
theorem KR.yr {N O Bc Bt : Nat} {w0 : World} (h1 : w0.heap.size ≤ O) (h2 : w0.heap.size ≤ N) (h3 : Bc < N) (h4 : Bt < N) (h5 : Bc ≠ O) (h6 : Bt ≠ O) : YR (KR N O) w0 Bc Bt where
  trans := KR.trans
  ext := KR.ext
  kc := fun hk h p u hp => h.2.1 p u (by have := World.block_lt_of_cell? w0 p hp; omega) (by have := World.block_lt_of_cell? w0 p hp; omega) (hk p u hp)
  bc := fun h hp => h.2.1 _ _ h3 h5 hp
  bt := fun h hp => h.2.1 _ _ h4 h6 hp
  claim := fun h hk => h.2.2 _ _ hk
theorem kr_b {B N O : Nat} (W : World) (l : Nat) (o o' : Obj) (_ : B ≤ l) (h : W.heap[l]? = some o) (ho : o.isCells = false) (_ : o.isWalk = false) : KR N O W (W.putObj l o') :=
  ⟨(grownBy_putObj' W l o').size, fun _ _ _ _ hp => cell_kept hp (grownBy_putObj' W l o') (fun r e => by cases e; exact ⟨o, h, ho⟩), fun k cs hk => ((grownBy_putObj' W l o').block k (Array.getElem?_eq_some_iff.1 hk).1 (fun e => by cases e; rw [hk] at h; cases h; cases ho)).trans hk⟩
/-- What stands when some bounds are gone over. -/
abbrev BrkI (O N : Nat) (w9 : World) (L : List Int) (W' : World) : Prop := (∃ A' c', Boxed W' O 27 (.slice A' L.length c') ∧ W'.ownsRow N 3 1 (.slice A' L.length c') L.length (icells L)) ∧ BelS (fun k => k = O) w9 W'
theorem brk_ext {O N : Nat} {w9 W W' : World} {L : List Int} (h : BrkI O N w9 L W) (hx : Ext W W') : BrkI O N w9 L W' := by
  obtain ⟨⟨A', c', h1, h2⟩, h3⟩ := h
  exact ⟨⟨A', c', (Below.block hx _ (Array.getElem?_eq_some_iff.1 h1).1).trans h1, own_below h2 hx⟩, h3.trans (Ext.belS hx)⟩
theorem brk_own {β : Type} {O N B : Nat} {w9 : World} {f : β → List Int} (hB : w9.heap.size ≤ B) : OwnFrom B (fun s W => BrkI O N w9 (f s) W) := fun s X Y row hs hg hr => by
  obtain ⟨⟨A', c', h1, h2⟩, h3⟩ := hs
  refine ⟨⟨A', c', h1.kept hg fun e => ?_, h2.kept hg ?_⟩, ⟨h3.1.grown hg (Nat.zero_le _) (fun _ _ => Nat.zero_le _), fun k hk hD => (hg.block k (Nat.lt_of_lt_of_le hk h3.size) (fun e => by have := (hr k e.symm).1; omega)).trans (h3.2 k hk hD)⟩⟩
  · obtain ⟨o, ho, hc⟩ := (hr O e.symm).2
    rw [show X.heap[O]? = _ from h1] at ho; cases ho; cases hc
  · rcases h2.2 with ⟨h, _⟩ | ⟨g, cap, cur, h, _, hgb, _⟩
    · exact .inl (by rw [h]; rfl)
    · refine .inr fun e => ?_
      rw [h] at e
      obtain ⟨o, ho, hc⟩ := (hr g (by simpa [Value.ownBlock] using e.symm)).2
      rw [hgb] at ho; cases ho; cases hc
theorem brk_cast {O N : Nat} {w9 W : World} {L L' : List Int} (h : BrkI O N w9 L W) (e : L' = L) : BrkI O N w9 L' W := by rw [e]; exact h
/-- One number more is laid into the box. -/
theorem brk_app_keep {O N : Nat} {w9 W w1 : World} {L : List Int} {x : Int} {A' A2 : Option Addr} {c' c2 : Nat} {tmp : Obj} (hO : O < N) (hN : N ≤ w9.heap.size) (hs9 : w9.heap.size ≤ W.heap.size) (hNW : w9.heap.size = N)
    (hv : Boxed W O 27 (.slice A' L.length c')) (hrow : W.ownsRow N 3 1 (.slice A' L.length c') L.length (icells L)) (hb : BelS (fun k => k = O) w9 W)
    (hown : w1.ownsRow N 3 1 (.slice A2 (L.length + 1) c2) (L.length + 1) (icells (L ++ [x]))) (hgrow : (W.alloc tmp).grownBy w1 (Value.slice A' L.length c').ownBlock) :
    Boxed w1 O 27 (.slice A' L.length c') ∧ KeepsOthers W (w1.setCell ⟨O, 0, none⟩ (.slice A2 (L.length + 1) c2)) ∧ KR N O W (w1.setCell ⟨O, 0, none⟩ (.slice A2 (L.length + 1) c2)) ∧ BrkI O N w9 (L ++ [x]) (w1.setCell ⟨O, 0, none⟩ (.slice A2 (L.length + 1) c2)) := by
  obtain ⟨hv1, hv2, _, hk2, hb2⟩ := Boxed.appended hv (by decide) (own_base hrow (Nat.le_of_lt hO)) (by omega) (Nat.le_refl _) (own_base hown (Nat.le_of_lt hO)) hgrow
  have hne : ∀ k, k < W.heap.size → k ≠ O → (Value.slice A' L.length c').ownBlock ≠ some k → (w1.setCell ⟨O, 0, none⟩ (.slice A2 (L.length + 1) c2)).heap[k]? = W.heap[k]? := fun k hk hkO hko =>
    (heap_setCell_ne _ _ _ _ hkO).trans ((hgrow.block k (by simp; omega) (fun e => hko e.symm)).trans (Below.heap_alloc _ _ _ hk))
  have hge : ∀ k, (Value.slice A' L.length c').ownBlock = some k → N ≤ k ∧ ∃ cur, W.heap[k]? = some (.cells cur 3 (0, 0)) := fun k e => by
    rcases hrow.2 with ⟨h, _⟩ | ⟨g, cap, cur, h, hNg, hgb, _⟩
    · rw [h] at e; cases e
    · rw [h] at e
      obtain rfl : g = k := by simpa [Value.ownBlock] using e
      exact ⟨hNg, cur, hgb⟩
  have hl : (L ++ [x]).length = L.length + 1 := by simp
  refine ⟨hv1, hk2, ⟨hk2.size, fun p u h1 h2 h3 => ?_, fun k cs hk => ?_⟩, ⟨A2, c2, by rw [hl]; exact hv2, by rw [hl]; exact hown.kept (grownBy_setCell' w1 O _) (.inr (hv1.not_row (by decide) hown).symm)⟩, ⟨hb.1.trans (Below.mono hb2 (Nat.zero_le _)), fun k hk hD => (hne k (by omega) hD (fun e => by have := (hge _ e).1; omega)).trans (hb.2 k hk hD)⟩⟩
  · exact (cell_of_heap (hne p.block (World.block_lt_of_cell? W p h3) h2 (fun e => by have := (hge _ e).1; omega))).trans h3
  · refine (hne k (Array.getElem?_eq_some_iff.1 hk).1 (fun e => ?_) (fun e => ?_)).trans hk
    · subst e
      rw [show W.heap[k]? = _ from hv] at hk; cases hk
    · obtain ⟨_, cur, h⟩ := hge k e
      rw [h] at hk; cases hk

set_option maxRecDepth 100000 in
set_option maxHeartbeats 2000000 in
theorem broken_any (v : Value) (c : Cs) (A : Option Addr) (k : Nat) (l : List Int) (w : World) (hc : CsR w v c) (hs : c.sized) (hA : Ints w A l) (h52 : c.all.length ≤ 52) (hl : ∀ x ∈ l, -1000000 ≤ x ∧ x ≤ 1000000) (hin : ∀ b ∈ c.all, bdIn l.length b) :
    Calls Try.prog 118 #[v, .slice A l.length k] w fun e w' => ∃ A' c', e = .returned (.slice A' (brkC c l).length c') ∧ w'.ownsRow w.heap.size 3 1 (.slice A' (brkC c l).length c') (brkC c l).length (icells (brkC c l)) ∧ Ext w w' := by
  obtain ⟨A1, c1, A2, c2, rfl, hB, hC⟩ := hc
  have HL := hid hl
  have HIN := hid hin
  clear hl hin
  refine callsIn_wide (n := 9).1 ?_
  refine callsIn_of_wp_marks Try.func118 rfl trivial ?_ rfl
  simp only [Try.ntmps118, List.size_toArray, List.length_cons, List.length_nil, Nat.reduceAdd, Nat.reduceSub, Array.replicate_succ, Array.replicate_zero, List.push_toArray, List.append_toArray, List.nil_append, List.cons_append]
  gi_wp2
  obtain ⟨W0, hW0⟩ : ∃ W0, (((w.alloc (.cells #[.int .i64 c.ev, .slice A1 c.bs.length c1, .int .i64 c.wi, .slice A2 c.cl.length c2] 26)).alloc (.cells #[.slice A l.length k] 27)).alloc (.cells #[.slice none 0 0] 27)) = W0 := ⟨_, rfl⟩
  rw [hW0]
  have hX0 : Ext w W0 := by rw [← hW0]; exact ((Ext.refl w).alloc _ |>.alloc _).alloc _
  have hk0 : W0.cell? ⟨w.heap.size, 0, none⟩ = some (.int .i64 c.ev) := by rw [← hW0]; simp [go_sem]
  have hk1 : W0.cell? ⟨w.heap.size, 1, none⟩ = some (.slice A1 c.bs.length c1) := by rw [← hW0]; simp [go_sem]
  have hk2 : W0.cell? ⟨w.heap.size, 2, none⟩ = some (.int .i64 c.wi) := by rw [← hW0]; simp [go_sem]
  have hk3 : W0.cell? ⟨w.heap.size, 3, none⟩ = some (.slice A2 c.cl.length c2) := by rw [← hW0]; simp [go_sem]
  have hm0 : W0.cell? ⟨w.heap.size + 1, 0, none⟩ = some (.slice A l.length k) := by rw [← hW0]; simp [go_sem]
  have hD0 : W0.heap[w.heap.size + 1 + 1]? = some (.cells #[.slice none 0 0] 27 (0, 0)) := by
    rw [← hW0]
    have h := heap_alloc_new ((w.alloc (.cells #[.int .i64 c.ev, .slice A1 c.bs.length c1, .int .i64 c.wi, .slice A2 c.cl.length c2] 26)).alloc (.cells #[.slice A l.length k] 27)) (.cells #[.slice none 0 0] 27)
    simpa using h
  have hCb : W0.heap[w.heap.size]? = some (.cells #[.int .i64 c.ev, .slice A1 c.bs.length c1, .int .i64 c.wi, .slice A2 c.cl.length c2] 26 (0, 0)) := by
    rw [← hW0, Below.heap_alloc _ _ _ (by simp; omega), Below.heap_alloc _ _ _ (by simp)]
    exact World.alloc_heap_new _ _
  have hr0 : W0.cell? ⟨w.heap.size + 1 + 1, 0, none⟩ = some (.slice none 0 0) := by rw [← hW0]; simp [go_sem]
  have hz0 : W0.heap.size = w.heap.size + 3 := by rw [← hW0]; simp
  clear hW0
  have FX : Hid (∀ w', Ext W0 w' → w'.cell? ⟨w.heap.size, 0, none⟩ = some (.int .i64 c.ev) ∧ w'.cell? ⟨w.heap.size, 1, none⟩ = some (.slice A1 c.bs.length c1) ∧ w'.cell? ⟨w.heap.size, 2, none⟩ = some (.int .i64 c.wi) ∧ w'.cell? ⟨w.heap.size, 3, none⟩ = some (.slice A2 c.cl.length c2)) := fun w' h => ⟨h.cell hk0, h.cell hk1, h.cell hk2, h.cell hk3⟩
  refine wpIn_wide.2 ?_
  refine wp_region_opens Ext (fun w' => Ext W0 w') (fun | 1 => some (fun v _ => v = .agg #[.func (.func 148) #[] #[]]) | 2 => some (fun v w' => ∃ P1 P2, v = .func (.func 149) #[] #[.pointer (some ⟨P1, 0, none⟩), .pointer (some ⟨P2, 0, none⟩)] ∧ W0.heap.size ≤ P1 ∧ W0.heap.size ≤ P2 ∧ w'.cell? ⟨P1, 1, none⟩ = some (.slice A1 c.bs.length c1) ∧ w'.cell? ⟨P1, 3, none⟩ = some (.slice A2 c.cl.length c2) ∧ w'.cell? ⟨P2, 0, none⟩ = some (.func (.func 148) #[] #[])) | _ => none) (by kernel_rfl) (by kernel_rfl) (fun _ _ h k => h.trans k) ?hTa (Ext.drew (Ext.refl W0)) ?_
  case hTa =>
    intro i R hR
    match i, hR with
    | 1, hR => cases hR; exact fun _ _ _ h _ => h
    | 2, hR => cases hR; exact fun _ _ _ ⟨P1, P2, e1, e2, e3, e4, e5, e6⟩ k => ⟨P1, P2, e1, e2, e3, k.cell e4, k.cell e5, k.cell e6⟩
  refine wpM_val ?ua0 rfl rfl Ext.refl (fun w' hD => ?ha0) ?na0
  case ha0 =>
    obtain ⟨d0, d1, d2, d3⟩ := FX.out w' hD.1
    go_simp; rfl
  simp only [Act.put, List.setIfInBounds_toArray, List.set_cons_succ, List.set_cons_zero, Nat.reduceAdd]
  refine wpM_op _ rfl rfl (opens_call ?fa1 ?ga1 (fun w' hD => ?ha1) (fun w' hD => ?ca1)) (fun v1 hv1 => ?na1)
  case ha1 => go_simp; constructor <;> rfl
  case ca1 =>
    refine (everyone_any w').mono ?_
    rintro e w2 ⟨rfl, hb⟩
    exact ⟨_, rfl, hb, rfl⟩
  obtain ⟨_, _, _, rfl⟩ := hv1
  simp only [Act.put, List.setIfInBounds_toArray, List.set_cons_succ, List.set_cons_zero, Nat.reduceAdd]
  refine wpM_op _ rfl rfl (opens_call ?fa2 ?ga2 (fun w' hD => ?ha2) (fun w' hD => ?ca2)) (fun v2 hv2 => ?na2)
  case ha2 => go_simp; constructor <;> rfl
  case ca2 =>
    refine (believed_any _ _ (.func (.func 148) #[] #[]) c w' rfl ⟨_, _, _, rfl⟩ A1 A2 c1 c2 rfl).mono ?_
    rintro e w2 ⟨rfl, rfl⟩
    exact ⟨_, rfl, Ext.alloc (Ext.alloc (Ext.refl _) _) _, w'.heap.size, w'.heap.size + 1, rfl, hD.1.size, Nat.le_succ_of_le hD.1.size, by simp [go_sem], by simp [go_sem], by simp [go_sem]⟩
  obtain ⟨_, -, -, P1, P2, rfl, -⟩ := hv2
  simp only [Act.put, List.setIfInBounds_toArray, List.set_cons_succ, List.set_cons_zero, Nat.reduceAdd]
  refine wpM_nil ?_
  intro w9 hw9 hF9
  obtain ⟨-, Q1, Q2, e9, f1, f2, f3, f4, f5⟩ := hF9 2
  cases e9
  clear hF9 FX
  have hin0 := HIN.out
  have hsz9 := hw9.size
  have hx9 : Ext w w9 := hX0.trans hw9
  have hs1 : c.all.length ≤ 9223372036854775807 := by omega
  have hdd : w9.heap[w.heap.size]? = some (.cells #[.int .i64 c.ev, .slice A1 c.bs.length c1, .int .i64 c.wi, .slice A2 c.cl.length c2] 26 (0, 0)) := (Below.block hw9 _ (Array.getElem?_eq_some_iff.1 hCb).1).trans hCb
  have hbox9 : Boxed w9 (w.heap.size + 1 + 1) 27 (.slice none 0 0) := (Below.block hw9 _ (Array.getElem?_eq_some_iff.1 hD0).1).trans hD0
  have hmm := hw9.cell hm0
  clear hCb hr0 hD0 hm0 hk0 hk1 hk2 hk3 hin0
  gi_wp2
  refine wpIn_rangeFunc_ownH (F := Fence.wide) (n := 9) rfl (by omega) (gf := 149) (lb := #[.pointer (some ⟨P1, 0, none⟩), .pointer (some ⟨P2, 0, none⟩)]) rfl trivial (enters_of Try.func149 (by kernel_rfl) rfl)
    (believed_stopsR _ P1 P2 (KR w9.heap.size (w.heap.size + 1 + 1)) c allT (.func (.func 148) #[] #[]) w w9 A1 A2 c1 c2 hB hC (everyone_fn w) (KR.yr (by omega) (by omega) (World.block_lt_of_cell? _ _ f3) (World.block_lt_of_cell? _ _ f5) (by omega) (by omega)) hs1 hs.2.1 hx9.kc f3 f4 f5) KR.trans kr_b (Below.refl _ _) (fun _ => rfl)
    (fun pre W' => (∃ A' c', Boxed W' (w.heap.size + 1 + 1) 27 (.slice A' (brk l (pre.map (·.1))).length c') ∧ W'.ownsRow w9.heap.size 3 1 (.slice A' (brk l (pre.map (·.1))).length c') (brk l (pre.map (·.1))).length (icells (brk l (pre.map (·.1))))) ∧ BelS (fun k => k = w.heap.size + 1 + 1) w9 W') (fun _ _ _ => False)
    (brk_own (Nat.le_refl _)) (fun _ _ _ _ _ hs _ _ => hs) ⟨⟨none, 0, hbox9, own_nil _ _ _ _⟩, BelS.refl _ _⟩
    (fun x a' W' => ∃ Bx, w9.heap.size ≤ Bx ∧ BdBox W' Bx x.1.2 ∧ a' = { tmps := #[.agg #[.int .i64 c.ev, .slice A1 c.bs.length c1, .int .i64 c.wi, .slice A2 c.cl.length c2], .slice A l.length k, .pointer (some ⟨w.heap.size, 0, none⟩), .pointer (some ⟨w.heap.size + 1, 0, none⟩), .slice none 0 0, .pointer (some ⟨w.heap.size + 1 + 1, 0, none⟩), .int .i64 (x.1.1 : Int), .pointer (some ⟨Bx, 0, none⟩), .agg #[.int .i64 c.ev, .slice A1 c.bs.length c1, .int .i64 c.wi, .slice A2 c.cl.length c2], .agg #[.func (.func 148) #[] #[]], .func (.func 149) #[] #[.pointer (some ⟨P1, 0, none⟩), .pointer (some ⟨P2, 0, none⟩)], .int .i64 (x.1.1 : Int), x.1.2.val, undef, undef, undef, undef, undef, undef, undef, undef, undef, undef, undef, undef, undef, undef, undef, undef, undef, undef, undef], defers := [] })
    (fun x a' _ X Y row hs hg hr => by obtain ⟨Bx, h1, h2, h3⟩ := hs; exact ⟨Bx, h1, own_bdbox _ Bx x.1.2 () X Y row h2 hg hr, h3⟩)
    ?assign ?body ?done ?stop
  case assign =>
    rintro lv pre x W' K hi2 hK
    have hs2 := hi2.2.size
    obtain ⟨⟨nn, ⟨f, t, m⟩⟩, hx⟩ := x
    simp only [encNB, Bd.val] at *
    gi_wp2
    refine hK _ _ ((KeepsOthers.alloc _ _).from _) (KR.ext (Ext.alloc (Ext.refl _) _)) (brk_ext hi2 (Ext.alloc (Ext.refl _) _)) ⟨W'.heap.size, by omega, World.alloc_heap_new _ _, ?_⟩
    rfl
  case body =>
    rintro lv pre x a' W' hl ⟨r, hr⟩ ⟨⟨A', c', hbx, hrow⟩, hb2⟩ ⟨Bx, hBx, hXb, rfl⟩ hlt2
    have hpl : pre.length < 52 := by
      have h : (belNum allT c).length = c.all.length := by rw [belNum_all, numFrom_length]
      omega
    obtain ⟨⟨nn, ⟨f, t, m⟩⟩, hx⟩ := x
    have hbL : (⟨f, t, m⟩ : Bd) ∈ c.all := bel_mem' (List.mem_map.2 ⟨_, hx, rfl⟩)
    have hbk := HIN.out _ hbL
    have HP : Hid (brk l ((pre ++ [(⟨(nn, ⟨f, t, m⟩), hx⟩ : NB (belNum allT c))]).map (·.1)) = brk l (pre.map (·.1)) ++ brk l [(nn, ⟨f, t, m⟩)]) := by
      unfold Hid; rw [List.map_append, brk_app]; rfl
    have hlen2 : (brk l (pre.map (·.1))).length ≤ pre.length := by
      have h := brk_len l (pre.map (·.1))
      rwa [List.length_map] at h
    obtain ⟨⟨f0, f1⟩, ⟨t0, t1⟩, m0, m1⟩ := hbk
    simp only at f0 f1 t0 t1 m0 m1
    obtain ⟨fn, rfl⟩ : ∃ k : Nat, f = k := ⟨f.toNat, by omega⟩
    obtain ⟨tn, rfl⟩ : ∃ k : Nat, t = k := ⟨t.toNat, by omega⟩
    obtain ⟨x, hxx⟩ := get_of_lt l fn (by omega)
    obtain ⟨y, hyy⟩ := get_of_lt l tn (by omega)
    have bx := HL.out x (mem_of_get hxx)
    have by_ := HL.out y (mem_of_get hyy)
    have HB : Hid (bdHolds l ⟨(fn : Int), (tn : Int), m⟩ = decide (y ≤ x + m)) := by
      unfold Hid bdHolds
      simp only [Int.toNat_natCast, List.getD_eq_getElem?_getD, hxx, hyy, Option.getD_some]
    have hxW : Ext w W' := ((Ext.belS hx9).trans hb2).ext fun k hk e => by omega
    obtain ⟨b1, o1, rfl, cx⟩ := (hA.ext hxW).at_ hxx
    obtain ⟨b2, o2, e2, cy⟩ := (hA.ext hxW).at_ hyy
    cases e2
    obtain ⟨e0, e1, e2⟩ := hXb.cells
    simp only at e0 e1 e2
    have qm := hb2.cell hmm (by simp)
    have hsum : IntKind.i64.wrap (x + m) = x + m := IntWalk.i64_in _ ⟨by omega, by omega⟩
    have hsW := hb2.size
    generalize brk l (pre.map (·.1)) = LL at *
    by_cases hgt : y > x + m
    · have hgtd : decide (y > x + m) = true := by simpa using hgt
      have HP2 : Hid (brk l ((pre ++ [(⟨(nn, ⟨(fn : Int), (tn : Int), m⟩), hx⟩ : NB (belNum allT c))]).map (·.1)) = LL ++ [(nn : Int)]) := by
        unfold Hid; rw [HP.out, brk_yes (p := (nn, ⟨(fn : Int), (tn : Int), m⟩)) (by rw [HB.out, decide_eq_false_iff_not]; omega)]
      clear hA hxx hyy
      gi_wp2
      have FX : Hid (∀ w', Ext W' w' → w'.cell? ⟨Bx, 0, none⟩ = some (.int .i64 (fn : Int)) ∧ w'.cell? ⟨Bx, 1, none⟩ = some (.int .i64 (tn : Int)) ∧ w'.cell? ⟨Bx, 2, none⟩ = some (.int .i64 m) ∧ w'.cell? ⟨w.heap.size + 1, 0, none⟩ = some (.slice (some ⟨b1, o1, none⟩) l.length k) ∧
          w'.cell? ⟨b1, o1 + fn, none⟩ = some (.int .i64 x) ∧ w'.cell? ⟨b1, o1 + tn, none⟩ = some (.int .i64 y)) :=
        fun w' h => ⟨h.cell e0, h.cell e1, h.cell e2, h.cell qm, h.cell cx, h.cell cy⟩
      clear e0 e1 e2 qm cx cy
      refine wpIn_region_opens Ext (fun w' => Ext W' w') (fun _ => none) (by kernel_rfl) (by kernel_rfl) (fun _ _ h k => h.trans k) (fun i R h => by cases h) (Ext.drew (Ext.refl W')) ?_
      refine wpM_val ?uy0 rfl rfl Ext.refl (fun w2 hD => ?hy0) ?ny0
      case hy0 =>
        obtain ⟨d0, d1, d2, dm, dx, dy⟩ := FX.out w2 hD.1
        go_simp; rfl
      simp only [Act.put, List.setIfInBounds_toArray, List.set_cons_succ, List.set_cons_zero, Nat.reduceAdd]
      refine wpM_val ?uy1 rfl rfl Ext.refl (fun w2 hD => ?hy1) ?ny1
      case hy1 =>
        obtain ⟨d0, d1, d2, dm, dx, dy⟩ := FX.out w2 hD.1
        go_simp; rfl
      simp only [Act.put, List.setIfInBounds_toArray, List.set_cons_succ, List.set_cons_zero, Nat.reduceAdd]
      refine wpM_val ?uy2 rfl rfl Ext.refl (fun w2 hD => ?hy2) ?ny2
      case hy2 =>
        obtain ⟨d0, d1, d2, dm, dx, dy⟩ := FX.out w2 hD.1
        go_simp; rfl
      simp only [Act.put, List.setIfInBounds_toArray, List.set_cons_succ, List.set_cons_zero, Nat.reduceAdd]
      refine wpM_val ?uy3 rfl rfl Ext.refl (fun w2 hD => ?hy3) ?ny3
      case hy3 =>
        obtain ⟨d0, d1, d2, dm, dx, dy⟩ := FX.out w2 hD.1
        go_simp; rfl
      simp only [Act.put, List.setIfInBounds_toArray, List.set_cons_succ, List.set_cons_zero, Nat.reduceAdd]
      refine wpM_val ?uy4 rfl rfl Ext.refl (fun w2 hD => ?hy4) ?ny4
      case hy4 =>
        obtain ⟨d0, d1, d2, dm, dx, dy⟩ := FX.out w2 hD.1
        go_simp; rfl
      simp only [Act.put, List.setIfInBounds_toArray, List.set_cons_succ, List.set_cons_zero, Nat.reduceAdd]
      refine wpM_val ?uy5 rfl rfl Ext.refl (fun w2 hD => ?hy5) ?ny5
      case hy5 =>
        obtain ⟨d0, d1, d2, dm, dx, dy⟩ := FX.out w2 hD.1
        go_simp; rfl
      simp only [Act.put, List.setIfInBounds_toArray, List.set_cons_succ, List.set_cons_zero, Nat.reduceAdd]
      refine wpM_val ?uy6 rfl rfl Ext.refl (fun w2 hD => ?hy6) ?ny6
      case hy6 =>
        obtain ⟨d0, d1, d2, dm, dx, dy⟩ := FX.out w2 hD.1
        go_simp; rfl
      simp only [Act.put, List.setIfInBounds_toArray, List.set_cons_succ, List.set_cons_zero, Nat.reduceAdd]
      refine wpM_val ?uy7 rfl rfl Ext.refl (fun w2 hD => ?hy7) ?ny7
      case hy7 =>
        obtain ⟨d0, d1, d2, dm, dx, dy⟩ := FX.out w2 hD.1
        go_simp; rfl
      simp only [Act.put, List.setIfInBounds_toArray, List.set_cons_succ, List.set_cons_zero, Nat.reduceAdd]
      refine wpM_val ?uy8 rfl rfl Ext.refl (fun w2 hD => ?hy8) ?ny8
      case hy8 =>
        obtain ⟨d0, d1, d2, dm, dx, dy⟩ := FX.out w2 hD.1
        go_simp; rfl
      simp only [Act.put, List.setIfInBounds_toArray, List.set_cons_succ, List.set_cons_zero, Nat.reduceAdd]
      refine wpM_val ?uy9 rfl rfl Ext.refl (fun w2 hD => ?hy9) ?ny9
      case hy9 =>
        obtain ⟨d0, d1, d2, dm, dx, dy⟩ := FX.out w2 hD.1
        go_simp; rfl
      simp only [Act.put, List.setIfInBounds_toArray, List.set_cons_succ, List.set_cons_zero, Nat.reduceAdd]
      refine wpM_val ?uy10 rfl rfl Ext.refl (fun w2 hD => ?hy10) ?ny10
      case hy10 =>
        obtain ⟨d0, d1, d2, dm, dx, dy⟩ := FX.out w2 hD.1
        go_simp; rfl
      simp only [Act.put, List.setIfInBounds_toArray, List.set_cons_succ, List.set_cons_zero, Nat.reduceAdd]
      refine wpM_val ?uy11 rfl rfl Ext.refl (fun w2 hD => ?hy11) ?ny11
      case hy11 =>
        obtain ⟨d0, d1, d2, dm, dx, dy⟩ := FX.out w2 hD.1
        go_simp; rfl
      simp only [Act.put, List.setIfInBounds_toArray, List.set_cons_succ, List.set_cons_zero, Nat.reduceAdd]
      refine wpM_val ?uy12 rfl rfl Ext.refl (fun w2 hD => ?hy12) ?ny12
      case hy12 =>
        obtain ⟨d0, d1, d2, dm, dx, dy⟩ := FX.out w2 hD.1
        go_simp; rfl
      simp only [Act.put, List.setIfInBounds_toArray, List.set_cons_succ, List.set_cons_zero, Nat.reduceAdd]
      refine wpM_val ?uy13 rfl rfl Ext.refl (fun w2 hD => ?hy13) ?ny13
      case hy13 =>
        obtain ⟨d0, d1, d2, dm, dx, dy⟩ := FX.out w2 hD.1
        go_simp; rfl
      simp only [Act.put, List.setIfInBounds_toArray, List.set_cons_succ, List.set_cons_zero, Nat.reduceAdd]
      refine wpM_nil ?_
      intro x9 hx9q hF9
      have hs9 := hx9q.size
      have hbx9 : Boxed x9 (w.heap.size + 1 + 1) 27 (.slice A' LL.length c') := (Below.block hx9q _ (Array.getElem?_eq_some_iff.1 hbx).1).trans hbx
      have hrow9 := own_below hrow hx9q
      have hb9 := hb2.trans (Ext.belS (S := fun k => k = w.heap.size + 1 + 1) hx9q)
      have hc := hbx9.cell
      have hrowA := hid (own_below hrow9 (Ext.alloc (Ext.refl x9) (.cells #[.int .i64 (nn : Int)] 3)))
      clear hF9
      obtain ⟨i0, hi, hz0, hz1, hz2⟩ := info_parts infoInt
      gi_wp2_with (gi_at_builtin; refine wpListIn_append_own _ rfl _ _ 27 rfl w9.heap.size 3 i0 (.int .i64 0) 1 8 Try.underlying27 hi hz0 hz1 hz2 rfl (by decide) _ _ _ rfl hrowA.out ⟨x9.heap.size, 0, none⟩ 1 1 [.int .i64 (nn : Int)] rfl rfl (cell_one_new _ _ _) (by simp [Value.oneCell']) (by simp [maxLen]; omega) (by omega) (by simp; omega) ?_; intro v' w1 hown' hgrow _; obtain ⟨g', cap', rfl⟩ := ownsRow_succ hown'; obtain ⟨hv1, hk2, hkr, hfin⟩ := brk_app_keep (x := (nn : Int)) (N := w9.heap.size) (O := w.heap.size + 1 + 1) (by omega) (Nat.le_refl _) (by omega) rfl hbx9 hrow9 hb9 (by simpa [icells] using hown') hgrow; have hc1 := hv1.cell; have hf1 := hv1.frozen)
      exact ⟨KeepsFrom.trans ⟨hx9q.size, fun kk o _ hk ho => (Below.block hx9q kk (Array.getElem?_eq_some_iff.1 hk).1).trans hk⟩ (hk2.from _), KR.trans (KR.ext hx9q) hkr, brk_cast hfin HP2.out⟩
    · have hgtd : decide (y > x + m) = false := by simpa using hgt
      have HP2 : Hid (brk l ((pre ++ [(⟨(nn, ⟨(fn : Int), (tn : Int), m⟩), hx⟩ : NB (belNum allT c))]).map (·.1)) = LL) := by
        unfold Hid; rw [HP.out, brk_no (p := (nn, ⟨(fn : Int), (tn : Int), m⟩)) (by rw [HB.out, decide_eq_true_eq]; omega), List.append_nil]
      clear hA hxx hyy
      gi_wp2
      have FX : Hid (∀ w', Ext W' w' → w'.cell? ⟨Bx, 0, none⟩ = some (.int .i64 (fn : Int)) ∧ w'.cell? ⟨Bx, 1, none⟩ = some (.int .i64 (tn : Int)) ∧ w'.cell? ⟨Bx, 2, none⟩ = some (.int .i64 m) ∧ w'.cell? ⟨w.heap.size + 1, 0, none⟩ = some (.slice (some ⟨b1, o1, none⟩) l.length k) ∧
          w'.cell? ⟨b1, o1 + fn, none⟩ = some (.int .i64 x) ∧ w'.cell? ⟨b1, o1 + tn, none⟩ = some (.int .i64 y)) :=
        fun w' h => ⟨h.cell e0, h.cell e1, h.cell e2, h.cell qm, h.cell cx, h.cell cy⟩
      clear e0 e1 e2 qm cx cy
      refine wpIn_region_opens Ext (fun w' => Ext W' w') (fun _ => none) (by kernel_rfl) (by kernel_rfl) (fun _ _ h k => h.trans k) (fun i R h => by cases h) (Ext.drew (Ext.refl W')) ?_
      refine wpM_val ?uz0 rfl rfl Ext.refl (fun w2 hD => ?hz0) ?nz0
      case hz0 =>
        obtain ⟨d0, d1, d2, dm, dx, dy⟩ := FX.out w2 hD.1
        go_simp; rfl
      simp only [Act.put, List.setIfInBounds_toArray, List.set_cons_succ, List.set_cons_zero, Nat.reduceAdd]
      refine wpM_val ?uz1 rfl rfl Ext.refl (fun w2 hD => ?hz1) ?nz1
      case hz1 =>
        obtain ⟨d0, d1, d2, dm, dx, dy⟩ := FX.out w2 hD.1
        go_simp; rfl
      simp only [Act.put, List.setIfInBounds_toArray, List.set_cons_succ, List.set_cons_zero, Nat.reduceAdd]
      refine wpM_val ?uz2 rfl rfl Ext.refl (fun w2 hD => ?hz2) ?nz2
      case hz2 =>
        obtain ⟨d0, d1, d2, dm, dx, dy⟩ := FX.out w2 hD.1
        go_simp; rfl
      simp only [Act.put, List.setIfInBounds_toArray, List.set_cons_succ, List.set_cons_zero, Nat.reduceAdd]
      refine wpM_val ?uz3 rfl rfl Ext.refl (fun w2 hD => ?hz3) ?nz3
      case hz3 =>
        obtain ⟨d0, d1, d2, dm, dx, dy⟩ := FX.out w2 hD.1
        go_simp; rfl
      simp only [Act.put, List.setIfInBounds_toArray, List.set_cons_succ, List.set_cons_zero, Nat.reduceAdd]
      refine wpM_val ?uz4 rfl rfl Ext.refl (fun w2 hD => ?hz4) ?nz4
      case hz4 =>
        obtain ⟨d0, d1, d2, dm, dx, dy⟩ := FX.out w2 hD.1
        go_simp; rfl
      simp only [Act.put, List.setIfInBounds_toArray, List.set_cons_succ, List.set_cons_zero, Nat.reduceAdd]
      refine wpM_val ?uz5 rfl rfl Ext.refl (fun w2 hD => ?hz5) ?nz5
      case hz5 =>
        obtain ⟨d0, d1, d2, dm, dx, dy⟩ := FX.out w2 hD.1
        go_simp; rfl
      simp only [Act.put, List.setIfInBounds_toArray, List.set_cons_succ, List.set_cons_zero, Nat.reduceAdd]
      refine wpM_val ?uz6 rfl rfl Ext.refl (fun w2 hD => ?hz6) ?nz6
      case hz6 =>
        obtain ⟨d0, d1, d2, dm, dx, dy⟩ := FX.out w2 hD.1
        go_simp; rfl
      simp only [Act.put, List.setIfInBounds_toArray, List.set_cons_succ, List.set_cons_zero, Nat.reduceAdd]
      refine wpM_val ?uz7 rfl rfl Ext.refl (fun w2 hD => ?hz7) ?nz7
      case hz7 =>
        obtain ⟨d0, d1, d2, dm, dx, dy⟩ := FX.out w2 hD.1
        go_simp; rfl
      simp only [Act.put, List.setIfInBounds_toArray, List.set_cons_succ, List.set_cons_zero, Nat.reduceAdd]
      refine wpM_val ?uz8 rfl rfl Ext.refl (fun w2 hD => ?hz8) ?nz8
      case hz8 =>
        obtain ⟨d0, d1, d2, dm, dx, dy⟩ := FX.out w2 hD.1
        go_simp; rfl
      simp only [Act.put, List.setIfInBounds_toArray, List.set_cons_succ, List.set_cons_zero, Nat.reduceAdd]
      refine wpM_val ?uz9 rfl rfl Ext.refl (fun w2 hD => ?hz9) ?nz9
      case hz9 =>
        obtain ⟨d0, d1, d2, dm, dx, dy⟩ := FX.out w2 hD.1
        go_simp; rfl
      simp only [Act.put, List.setIfInBounds_toArray, List.set_cons_succ, List.set_cons_zero, Nat.reduceAdd]
      refine wpM_val ?uz10 rfl rfl Ext.refl (fun w2 hD => ?hz10) ?nz10
      case hz10 =>
        obtain ⟨d0, d1, d2, dm, dx, dy⟩ := FX.out w2 hD.1
        go_simp; rfl
      simp only [Act.put, List.setIfInBounds_toArray, List.set_cons_succ, List.set_cons_zero, Nat.reduceAdd]
      refine wpM_val ?uz11 rfl rfl Ext.refl (fun w2 hD => ?hz11) ?nz11
      case hz11 =>
        obtain ⟨d0, d1, d2, dm, dx, dy⟩ := FX.out w2 hD.1
        go_simp; rfl
      simp only [Act.put, List.setIfInBounds_toArray, List.set_cons_succ, List.set_cons_zero, Nat.reduceAdd]
      refine wpM_val ?uz12 rfl rfl Ext.refl (fun w2 hD => ?hz12) ?nz12
      case hz12 =>
        obtain ⟨d0, d1, d2, dm, dx, dy⟩ := FX.out w2 hD.1
        go_simp; rfl
      simp only [Act.put, List.setIfInBounds_toArray, List.set_cons_succ, List.set_cons_zero, Nat.reduceAdd]
      refine wpM_val ?uz13 rfl rfl Ext.refl (fun w2 hD => ?hz13) ?nz13
      case hz13 =>
        obtain ⟨d0, d1, d2, dm, dx, dy⟩ := FX.out w2 hD.1
        go_simp; rfl
      simp only [Act.put, List.setIfInBounds_toArray, List.set_cons_succ, List.set_cons_zero, Nat.reduceAdd]
      refine wpM_nil ?_
      intro x9 hx9q hF9
      have hfin := brk_ext ⟨⟨A', c', hbx, hrow⟩, hb2⟩ hx9q
      clear hF9
      gi_wp2
      exact ⟨⟨hx9q.size, fun kk o _ hk ho => (Below.block hx9q kk (Array.getElem?_eq_some_iff.1 hk).1).trans hk⟩, KR.ext hx9q, brk_cast hfin HP2.out⟩
  case done =>
    rintro D3 xs W3 hD3 hxs ⟨⟨A', c', hbx, hrow⟩, hb3⟩ hK3
    have hc := hbx.cell
    have HP : Hid (brk l (xs.map (·.1)) = brkC c l) := by
      unfold Hid brkC
      rw [show xs.map (·.1) = belNum allT c from hxs, belNum_all]
    rw [HP.out] at hrow hbx hc
    have hrow2 := hid (ownsRow_putObj (own_base hrow (by omega)) (base := w.heap.size) (.deferred none) hK3 rfl)
    have hxx : Ext w W3 := ((Ext.belS hx9).trans hb3).ext fun k hk e => by omega
    have hb0 := hid (kr_b (B := w9.heap.size) (N := 0) (O := 0) W3 D3 _ (.deferred none) hD3 hK3 rfl rfl)
    gi_wp2
    refine ⟨by simp, .inl ⟨_, _, rfl, run_takeDeferred hK3, ?_⟩⟩
    exact ⟨_, results_tmp rfl _ _ _, A', c', rfl, hrow2.out, Below.trans hxx (belowK_b (w := w) (Nat.le_refl _) W3 D3 _ _ (by omega) hK3 rfl rfl)⟩
  case stop =>
    rintro D c pre W _ _ h _
    exact h.elim
end Go.Proofs.Ytgnjhaomlbkgcaa

namespace Go.Proofs.Ytgnjhaomlbkgcaa
open Go Go.RowKit Go.Shelf
set_option linter.unusedVariables false
set_option linter.unusedSimpArgs false

def holdsB (c : Cs) (l : List Int) : Bool := decide (brokenC c l = 0) && (brkC c l).isEmpty

set_option maxRecDepth 100000 in
set_option maxHeartbeats 2000000 in
theorem minutes_any (v : Value) (c : Cs) (A : Option Addr) (k : Nat) (l : List Int) (w : World) (hc : CsR w v c) (hs : c.sized) (hA : Ints w A l) (hl : l.length ≤ 9223372036854775807) :
    Calls Try.prog 117 #[v, .slice A l.length k] w fun e w' => e = .returned (.int .i64 (minutesC c l)) ∧ Ext w w' := by
  have hc' := hc
  obtain ⟨A1, c1, A2, c2, rfl, hB, hC⟩ := hc
  have hx0 : Ext w (w.alloc (.cells #[.int .i64 c.ev, .slice A1 c.bs.length c1, .int .i64 c.wi, .slice A2 c.cl.length c2] 26)) := Ext.alloc (Ext.refl w) _
  have K1 := check_any _ c _ (hc'.ext hx0) hs
  have HF : Hid (minutesC c l = if checkC c ≠ 0 then checkC c else if (l.length : Int) ≠ c.ev then 2 else if l.all (fun i => inB i (-10000) 10000) then 0 else 3) := rfl
  obtain ⟨R, hR⟩ : ∃ R, minutesC c l = R := ⟨_, rfl⟩
  obtain ⟨K0, hK0⟩ : ∃ K0, checkC c = K0 := ⟨_, rfl⟩
  rw [hR, hK0] at HF
  rw [hR]
  rw [hK0] at K1
  have H0 := hid hK0
  clear hR hK0
  go_enter Try.func117, Try.ntmps117
  go_wp2_with fail
  refine K1.mono ?_
  clear K1
  rintro e w1 ⟨rfl, hb1⟩
  have hx1 := hx0.trans hb1
  have kc0 := hb1.cell (p := ⟨w.heap.size, 0, none⟩) (u := .int .i64 c.ev) (by simp [go_sem])
  by_cases h0 : K0 = 0
  case neg =>
    have HE : Hid (R = K0) := by unfold Hid; rw [HF.out, if_pos h0]
    have b3 : (K0 != 0) = true := by simpa using h0
    clear HF
    go_wp2
    go_ret
    exact ⟨ret_of (int_of HE.out.symm), hx1⟩
  subst h0
  by_cases hlen : (l.length : Int) = c.ev
  case neg =>
    have HE : Hid (R = 2) := by unfold Hid; rw [HF.out, if_neg (by simp), if_pos hlen]
    have b3 : ((l.length : Int) != c.ev) = true := by simpa using hlen
    clear HF
    go_wp2
    go_ret
    exact ⟨ret_of (int_of HE.out.symm), hx1⟩
  have HE : Hid (R = if l.all (fun i => inB i (-10000) 10000) then 0 else 3) := by unfold Hid; rw [HF.out, if_neg (by simp), if_neg (by simp [hlen])]
  rw [← hlen] at kc0
  clear HF
  go_wp2_with fail
  refine (every_int A k l _ anyx _ w1 (hA.ext hx1) (by omega) (anyx_all _) (minutes1_fn w1)).mono ?_
  rintro e w2 ⟨rfl, hb2⟩
  cases hall : l.all (fun i => inB i (-10000) 10000)
  · have HE2 : Hid (R = 3) := by unfold Hid; rw [HE.out, hall]; rfl
    go_wp2
    go_ret
    exact ⟨ret_of (int_of HE2.out.symm), hx1.trans hb2⟩
  · have HE2 : Hid (R = 0) := by unfold Hid; rw [HE.out, hall]; rfl
    go_wp2
    go_ret
    exact ⟨ret_of (int_of HE2.out.symm), hx1.trans hb2⟩

set_option maxRecDepth 100000 in
set_option maxHeartbeats 2000000 in
theorem holdsw_any (v : Value) (c : Cs) (A : Option Addr) (k : Nat) (l : List Int) (w : World) (hc : CsR w v c) (hs : c.sized) (hA : Ints w A l) (hl : l.length ≤ 9223372036854775807) :
    Calls Try.prog 62 #[v, .slice A l.length k] w fun e w' => e = .returned (.tuple #[.bool (holdsB c l), .int .i64 (minutesC c l)]) ∧ Ext w w' := by
  have hc' := hc
  obtain ⟨A1, c1, A2, c2, rfl, hB, hC⟩ := hc
  have hx0 : Ext w (w.alloc (.cells #[.int .i64 c.ev, .slice A1 c.bs.length c1, .int .i64 c.wi, .slice A2 c.cl.length c2] 26)) := Ext.alloc (Ext.refl w) _
  have K1 := minutes_any _ c A k l _ (hc'.ext hx0) hs (hA.ext hx0) hl
  obtain ⟨M, hM⟩ : ∃ M, minutesC c l = M := ⟨_, rfl⟩
  have HM := hid hM
  have HF : Hid (holdsB c l = (decide ((if M ≠ 0 then M else if l.getD 0 0 ≠ 0 then 8 else 0) = 0) && (brkC c l).isEmpty)) := by unfold Hid holdsB brokenC; rw [hM]
  obtain ⟨R, hR⟩ : ∃ R, holdsB c l = R := ⟨_, rfl⟩
  rw [hR] at HF
  rw [hM] at K1
  rw [hR, hM]
  clear hR hM
  go_enter Try.func62, Try.ntmps62
  go_wp2_with fail
  refine K1.mono ?_
  clear K1
  rintro e w1 ⟨rfl, hb1⟩
  have hx1 := hx0.trans hb1
  by_cases h0 : M = 0
  case neg =>
    have HE : Hid (R = false) := by unfold Hid; rw [HF.out, if_pos h0, decide_eq_false h0]; rfl
    have b3 : (M != 0) = true := by simpa using h0
    clear HF
    go_wp2
    go_ret2
    exact ⟨ret_of (by rw [HE.out]; rfl), hx1⟩
  subst h0
  have hmo := minutesC_ok HM.out
  have hev := checkC_ev hmo.1
  have h52 := checkC_52 hmo.1
  have hlen : (0 : Int) < (l.length : Int) := by omega
  have HIN := hid (min_in hmo.1 hmo.2.1)
  have HLM := hid hmo.2.2
  obtain ⟨z, hz⟩ := get_of_lt l 0 (by omega)
  have HE : Hid (R = (decide (z = 0) && (brkC c l).isEmpty)) := by
    unfold Hid
    rw [HF.out, if_neg (by simp), List.getD_eq_getElem?_getD, hz, Option.getD_some]
    by_cases hz0 : z = 0
    · rw [if_neg (by simp [hz0])]; simp [hz0]
    · rw [if_pos hz0]; simp [hz0]
  have kc0 := hb1.cell (p := ⟨w.heap.size, 0, none⟩) (u := .int .i64 c.ev) (by simp [go_sem])
  have kc1 := hb1.cell (p := ⟨w.heap.size, 1, none⟩) (u := .slice A1 c.bs.length c1) (by simp [go_sem])
  have kc2 := hb1.cell (p := ⟨w.heap.size, 2, none⟩) (u := .int .i64 c.wi) (by simp [go_sem])
  have kc3 := hb1.cell (p := ⟨w.heap.size, 3, none⟩) (u := .slice A2 c.cl.length c2) (by simp [go_sem])
  obtain ⟨b1, o1, rfl, cz⟩ := (hA.ext hx1).at_ hz
  rw [Nat.add_zero] at cz
  clear hmo HF hz
  by_cases hz0 : z = 0
  case neg =>
    have HE2 : Hid (R = false) := by unfold Hid; rw [HE.out, decide_eq_false hz0]; rfl
    have b3 : (z == 0) = false := by simpa using hz0
    go_wp2
    go_ret2
    exact ⟨ret_of (by rw [HE2.out]; rfl), hx1⟩
  subst hz0
  go_wp2_with fail
  refine (broken_any _ c _ k l w1 (hc'.ext hx1) hs (hA.ext hx1) h52 (fun x hx => by have := HLM.out x hx; omega) HIN.out).mono ?_
  rintro e w2 ⟨A', c', rfl, -, hb2⟩
  have HE3 : Hid (R = (((brkC c l).length : Int) == 0)) := by
    unfold Hid
    rw [HE.out]
    cases brkC c l with
    | nil => rfl
    | cons a t => simp; omega
  go_wp2
  go_ret2
  exact ⟨ret_of (by rw [HE3.out]; rfl), hx1.trans hb2⟩

set_option maxRecDepth 100000 in
set_option maxHeartbeats 2000000 in
theorem brokenw_any (v : Value) (c : Cs) (A : Option Addr) (k : Nat) (l : List Int) (w : World) (hc : CsR w v c) (hs : c.sized) (hA : Ints w A l) (hl : l.length ≤ 9223372036854775807) :
    Calls Try.prog 63 #[v, .slice A l.length k] w fun e w' => ∃ r, e = .returned (.tuple #[r, .int .i64 (brokenC c l)]) ∧ Ext w w' ∧ (brokenC c l ≠ 0 → r = .slice none 0 0) ∧ (brokenC c l = 0 → ∃ A' c', r = .slice A' (brkC c l).length c' ∧ Ints w' A' (brkC c l)) := by
  have hc' := hc
  obtain ⟨A1, c1, A2, c2, rfl, hB, hC⟩ := hc
  have hx0 : Ext w (w.alloc (.cells #[.int .i64 c.ev, .slice A1 c.bs.length c1, .int .i64 c.wi, .slice A2 c.cl.length c2] 26)) := Ext.alloc (Ext.refl w) _
  have K1 := minutes_any _ c A k l _ (hc'.ext hx0) hs (hA.ext hx0) hl
  obtain ⟨M, hM⟩ : ∃ M, minutesC c l = M := ⟨_, rfl⟩
  have HM := hid hM
  have HF : Hid (brokenC c l = if M ≠ 0 then M else if l.getD 0 0 ≠ 0 then 8 else 0) := by unfold Hid brokenC; rw [hM]
  obtain ⟨R, hR⟩ : ∃ R, brokenC c l = R := ⟨_, rfl⟩
  rw [hR] at HF
  rw [hM] at K1
  rw [hR]
  clear hR hM
  go_enter Try.func63, Try.ntmps63
  go_wp2_with fail
  refine K1.mono ?_
  clear K1
  rintro e w1 ⟨rfl, hb1⟩
  have hx1 := hx0.trans hb1
  by_cases h0 : M = 0
  case neg =>
    have HE : Hid (R = M) := by unfold Hid; rw [HF.out, if_pos h0]
    have b3 : (M != 0) = true := by simpa using h0
    have H0 := hid h0
    clear HF
    go_wp2
    go_ret2
    exact ⟨.slice none 0 0, ret_of (by rw [HE.out]; rfl), hx1, fun _ => rfl, fun h => absurd (HE.out.symm.trans h) H0.out⟩
  subst h0
  have hmo := minutesC_ok HM.out
  have hev := checkC_ev hmo.1
  have h52 := checkC_52 hmo.1
  have hlen : (0 : Int) < (l.length : Int) := by omega
  have HIN := hid (min_in hmo.1 hmo.2.1)
  have HLM := hid hmo.2.2
  obtain ⟨z, hz⟩ := get_of_lt l 0 (by omega)
  have HE : Hid (R = if z ≠ 0 then 8 else 0) := by
    unfold Hid
    rw [HF.out, if_neg (by simp), List.getD_eq_getElem?_getD, hz, Option.getD_some]
  have kc0 := hb1.cell (p := ⟨w.heap.size, 0, none⟩) (u := .int .i64 c.ev) (by simp [go_sem])
  have kc1 := hb1.cell (p := ⟨w.heap.size, 1, none⟩) (u := .slice A1 c.bs.length c1) (by simp [go_sem])
  have kc2 := hb1.cell (p := ⟨w.heap.size, 2, none⟩) (u := .int .i64 c.wi) (by simp [go_sem])
  have kc3 := hb1.cell (p := ⟨w.heap.size, 3, none⟩) (u := .slice A2 c.cl.length c2) (by simp [go_sem])
  obtain ⟨b1, o1, rfl, cz⟩ := (hA.ext hx1).at_ hz
  rw [Nat.add_zero] at cz
  clear hmo HF hz
  by_cases hz0 : z = 0
  case neg =>
    have HE2 : Hid (R = 8) := by unfold Hid; rw [HE.out, if_pos hz0]
    have b3 : (z != 0) = true := by simpa using hz0
    go_wp2
    go_ret2
    exact ⟨.slice none 0 0, ret_of (by rw [HE2.out]; rfl), hx1, fun _ => rfl, fun h => absurd (HE2.out.symm.trans h) (by decide)⟩
  subst hz0
  have HE2 : Hid (R = 0) := by unfold Hid; rw [HE.out, if_neg (by simp)]
  go_wp2_with fail
  refine (broken_any _ c _ k l w1 (hc'.ext hx1) hs (hA.ext hx1) h52 (fun x hx => by have := HLM.out x hx; omega) HIN.out).mono ?_
  rintro e w2 ⟨A', c', rfl, ho, hb2⟩
  have HI : Hid (Ints w2 A' (brkC c l)) := Rd.of_own ho
  clear ho
  go_wp2
  go_ret2
  exact ⟨.slice A' (brkC c l).length c', ret_of (by rw [HE2.out]; rfl), hx1.trans hb2, fun h => absurd HE2.out h, fun _ => ⟨A', c', rfl, HI.out⟩⟩
end Go.Proofs.Ytgnjhaomlbkgcaa

namespace Go.Proofs.Ytgnjhaomlbkgcaa
open Go Go.RowKit
set_option linter.unusedVariables false
set_option linter.unusedSimpArgs false

theorem eq_drop {l m : List Int} {k : Nat} {x y : Int} (hx : l[k]? = some x) (hy : m[k]? = some y) : (l.drop k == m.drop k) = ((x == y) && (l.drop (k + 1) == m.drop (k + 1))) := by
  have h1 : k < l.length := (List.getElem?_eq_some_iff.1 hx).1
  have h2 : k < m.length := (List.getElem?_eq_some_iff.1 hy).1
  rw [List.drop_eq_getElem_cons h1, List.drop_eq_getElem_cons h2, (List.getElem?_eq_some_iff.1 hx).2, (List.getElem?_eq_some_iff.1 hy).2]
  rfl

set_option maxRecDepth 100000 in
set_option maxHeartbeats 1000000 in
theorem equal_int (A A' : Option Addr) (c c' : Nat) (l m : List Int) (w : World) (hA : Ints w A l) (hB : Ints w A' m) (hl : l.length ≤ 9223372036854775807) (hm : m.length ≤ 9223372036854775807) :
    Calls Try.prog 94 #[.slice A l.length c, .slice A' m.length c'] w fun e w' => e = .returned (.bool (l == m)) ∧ Ext w w' := by
  by_cases hlen : l.length = m.length
  · generalize hN : m.length = N at *
    have HF : Hid ((l.drop 0 == m.drop 0) = (l == m)) := rfl
    generalize hF : (l == m) = F at HF ⊢
    clear hF
    have hn1 : (l.length : Int) = N := by omega
    obtain rfl : l.length = N := hlen
    clear hn1
    have HN := hid hN
    clear hN
    go_enter Try.func94, Try.ntmps94
    go_wp2
    go_loopw [5, 13] (fun _ i wr => ∃ k : Nat, k ≤ l.length ∧ i = .int .i64 (k : Int) ∧ Ext w wr ∧ Hid ((l.drop k == m.drop k) = F)) (fun _ i _ => l.length - (intOf i).toNat)
    case atStart => exact ⟨0, Nat.zero_le _, rfl, Ext.refl _, HF⟩
    case round =>
      obtain ⟨k, hk, rfl, hx, HF⟩ := hrel
      by_cases hlt : k < l.length
      · have hlt' : (k : Int) < (l.length : Int) := by omega
        obtain ⟨x, hx1⟩ := get_of_lt l k hlt
        obtain ⟨y, hy1⟩ := get_of_lt m k (by rw [HN.out]; exact hlt)
        obtain ⟨b1, o1, rfl, g1⟩ := (hA.ext hx).at_ hx1
        obtain ⟨b2, o2, rfl, g2⟩ := (hB.ext hx).at_ hy1
        have HX : Hid (((x == y) && (l.drop (k + 1) == m.drop (k + 1))) = F) := by unfold Hid; rw [← HF.out, eq_drop hx1 hy1]
        clear HF hx1 hy1
        by_cases hxy : x = y
        · subst hxy
          have hq : (x != x) = false := by simp
          have HX2 : Hid ((l.drop (k + 1) == m.drop (k + 1)) = F) := by unfold Hid; rw [← HX.out]; simp
          go_wp2
          go_quiet (fail)
          go_wp2
          go_roundw
          case rel => exact ⟨k + 1, by omega, by go_num, hx.drewN _, HX2⟩
          case measure => simp [intOf]; omega
        · have hq : (x != y) = true := by simpa using hxy
          have HX2 : Hid (false = F) := by unfold Hid; rw [← HX.out]; simp [hxy]
          go_wp2
          go_quiet (fail)
          go_wp2
          go_ret
          exact ⟨ret_of (bool_of HX2.out), hx.drewN _⟩
      · have hlt' : ¬ (k : Int) < (l.length : Int) := by omega
        have HX2 : Hid (true = F) := by
          unfold Hid
          rw [← HF.out, List.drop_eq_nil_of_le (by omega), List.drop_eq_nil_of_le (by rw [HN.out]; omega)]; rfl
        go_wp2
        go_ret
        exact ⟨ret_of (bool_of HX2.out), hx⟩
  · have hq : ((l.length : Int) != (m.length : Int)) = true := by simp; omega
    have HF : Hid ((l == m) = false) := by
      unfold Hid
      rw [beq_eq_false_iff_ne]
      intro e; exact hlen (by rw [e])
    generalize hF : (l == m) = F at HF ⊢
    clear hF
    go_enter Try.func94, Try.ntmps94
    go_wp2
    go_ret
    exact ⟨ret_of (bool_of HF.out.symm), Ext.refl _⟩

theorem eq_int (A A' : Option Addr) (c c' : Nat) (l m : List Int) (w : World) (hA : Ints w A l) (hB : Ints w A' m) (hl : l.length ≤ 9223372036854775807) (hm : m.length ≤ 9223372036854775807) :
    Calls Try.prog 32 #[.slice A l.length c, .slice A' m.length c'] w fun e w' => e = .returned (.bool (l == m)) ∧ Ext w w' := by
  generalize hF : (l == m) = F
  have HF := hid hF
  clear hF
  go_enter Try.func32, Try.ntmps32
  go_wp2_with fail
  refine (equal_int A A' c c' l m w hA hB hl hm).mono ?_
  rw [HF.out]
  rintro e w1 ⟨rfl, hb⟩
  go_wp2
  go_ret
  exact ⟨rfl, hb⟩
end Go.Proofs.Ytgnjhaomlbkgcaa

namespace Go.Proofs.Ytgnjhaomlbkgcaa
open Go Go.RowKit
set_option linter.unusedVariables false
set_option linter.unusedSimpArgs false

def hornC (l : List Cl) : Cs := ⟨4, [⟨0, 1, 30⟩, ⟨1, 0, 0⟩, ⟨1, 2, 6⟩, ⟨2, 1, -2⟩, ⟨0, 3, 50⟩, ⟨3, 0, -40⟩], 2, l⟩
def lieL : List Cl := [⟨0, [⟨1, 0, -50⟩]⟩]
def tru (a b c d : Int) : Nat → Int := fun k => match k with | 0 => a | 1 => b | 2 => c | _ => d
theorem gap_eq {tf : Int → Bool} {c : Cs} {t : Nat → Int} (h0 : checkC c = 0) (ht : TruthOf (belL tf c) t) {a b : Nat} (ha : a < 8) (hb : b < 8) {l : List Bd} (hr : Row (belL tf c) a b l) (hs : sumW l = t b - t a) : gapsM tf c a b = t b - t a := by
  have h1 := gap_le h0 ht.fine ha hb hr
  have h2 := ht.gap h0 ha hb (gap_lt_far h0 ht.fine ha hb hr)
  omega
theorem horn_check (l : List Cl) (h : l = [] ∨ l = lieL) : checkC (hornC l) = 0 := by
  rcases h with rfl | rfl <;> decide
theorem horn_truth {t : Nat → Int} (h : ∀ x ∈ (hornC []).bs, t x.t.toNat ≤ t x.f.toNat + x.m) : TruthOf (belL allT (hornC [])) t := by
  rw [belL_all]
  intro x hx
  exact h x (by simpa [Cs.all, hornC] using hx)
theorem horn_t1 : TruthOf (belL allT (hornC [])) (tru 0 30 36 40) := horn_truth (by decide)
theorem horn_t2 : TruthOf (belL allT (hornC [])) (tru 0 0 2 50) := horn_truth (by decide)
theorem horn_row {a b : Nat} {l : List Bd} (hm : ∀ x ∈ l, x ∈ (hornC []).bs) (hc : chn a l) (he : endW a l = b) : Row (belL allT (hornC [])) a b l := by
  rw [belL_all]
  exact ⟨fun x hx => by have := hm x hx; simpa [Cs.all, hornC] using this, hc, he⟩
theorem horn_g02 : gapsM allT (hornC []) 0 2 = 36 :=
  gap_eq (l := [⟨0, 1, 30⟩, ⟨1, 2, 6⟩]) (horn_check [] (.inl rfl)) horn_t1 (by omega) (by omega) (horn_row (by decide) ⟨rfl, rfl, trivial⟩ rfl) rfl
theorem horn_g32 : gapsM allT (hornC []) 3 2 = -4 :=
  gap_eq (l := [⟨3, 0, -40⟩, ⟨0, 1, 30⟩, ⟨1, 2, 6⟩]) (horn_check [] (.inl rfl)) horn_t1 (by omega) (by omega) (horn_row (by decide) ⟨rfl, rfl, rfl, trivial⟩ rfl) rfl
theorem horn_g23 : gapsM allT (hornC []) 2 3 = 48 :=
  gap_eq (l := [⟨2, 1, -2⟩, ⟨1, 0, 0⟩, ⟨0, 3, 50⟩]) (horn_check [] (.inl rfl)) horn_t2 (by omega) (by omega) (horn_row (by decide) ⟨rfl, rfl, rfl, trivial⟩ rfl) rfl
theorem horn_fine : Fine (hornC []).all := by rw [← belL_all]; exact horn_t1.fine
theorem horn_gap : gapOf (hornC []) 0 2 = (36, 0) := by
  have := gap_is (a := 0) (b := 2) (horn_check [] (.inl rfl)) horn_fine (by decide) (by decide)
  rw [horn_g02] at this
  exact this
theorem horn_before : beforeOf (hornC []) 2 3 = (1, 0) := by
  have := before_is (a := 2) (b := 3) (horn_check [] (.inl rfl)) horn_fine (by decide) (by decide)
  unfold verdictM at this
  rw [horn_g32] at this
  exact this
theorem horn_ask : askOf (hornC []) 2 3 = ((4, 48), 0) := by
  have h1 : askedC (hornC []) [2, 3] = 0 := asked_two (a := 2) (b := 3) (horn_check [] (.inl rfl)) horn_fine (by decide) (by decide)
  unfold askOf
  rw [if_pos h1]
  show (if gapsM allT (hornC []) 2 3 = far ∨ gapsM allT (hornC []) 3 2 = far then _ else ((-gapsM allT (hornC []) 3 2, gapsM allT (hornC []) 2 3), 0)) = _
  rw [horn_g32, horn_g23]
  rfl
theorem horn_shows : showsOf (hornC []) 3 2 [5, 0, 2] = (-4, 0) := by
  unfold showsOf
  rw [if_neg (by rw [horn_check [] (.inl rfl)]; decide)]
  decide
theorem horn_ring : ringC (hornC []) = 6 := by
  unfold ringC
  rw [horn_check [] (.inl rfl), clash_of (horn_check [] (.inl rfl)) (by rw [belL_all]; exact horn_fine)]
  rfl
theorem lie_ring {tf : Int → Bool} (h : tf 0 = true) : clashM (gapsM tf (hornC lieL)) = true := by
  cases hc : clashM (gapsM tf (hornC lieL)) with
  | true => rfl
  | false =>
    have hf := fine_of (horn_check lieL (.inr rfl)) hc
    have hb : belL tf (hornC lieL) = (hornC lieL).bs ++ [⟨1, 0, -50⟩] := by
      unfold belL belNum hornC lieL
      simp [numFrom, clNum, h]
    have := hf 0 [⟨0, 1, 30⟩, ⟨1, 0, -50⟩] (by omega) ⟨by rw [hb]; decide, ⟨rfl, rfl, trivial⟩, rfl⟩
    exact absurd this (by decide)
theorem lie_told : toldC (hornC lieL) = 7 := by
  unfold toldC
  rw [if_pos (horn_check lieL (.inr rfl)), lie_ring rfl]
  rfl
theorem lie_p0 : liarsP (hornC lieL) [] = false := by
  unfold liarsP
  rw [lie_ring rfl]; rfl
theorem lie_p1 : liarsP (hornC lieL) [0] = true := by
  unfold liarsP
  rw [clash_of (horn_check lieL (.inr rfl))]; rfl
  have hb : belL (fun n => !memI n [0]) (hornC lieL) = (hornC lieL).bs := by
    unfold belL belNum hornC lieL
    simp [numFrom, clNum, memI]
  rw [hb]
  exact TruthOf.fine (t := tru 0 30 36 40) (show ∀ x ∈ (hornC lieL).bs, tru 0 30 36 40 x.t.toNat ≤ tru 0 30 36 40 x.f.toNat + x.m by decide)
theorem lie_few : fewL (liarsP (hornC lieL)) (hornC lieL).wi.toNat = some [0] := by
  show fewL (liarsP (hornC lieL)) 2 = some [0]
  simp [fewL, tryL, moreL, lie_p0, lie_p1]
theorem lie_liars : liarsC (hornC lieL) = 0 := by
  unfold liarsC
  rw [lie_few, horn_check lieL (.inr rfl)]
  rfl
end Go.Proofs.Ytgnjhaomlbkgcaa

namespace Go.Proofs.Ytgnjhaomlbkgcaa
open Go Go.RowKit Go.Shelf
set_option linter.unusedVariables false
set_option linter.unusedSimpArgs false


set_option maxRecDepth 100000 in
set_option maxHeartbeats 1000000 in
theorem horn_any (A : Option Addr) (k : Nat) (l : List Cl) (w : World) (hA : Claims w A l) :
    Calls Try.prog 83 #[.slice A l.length k] w fun e w' => ∃ v, e = .returned v ∧ CsR w' v (hornC l) ∧ Ext w w' := by
  go_enter Try.func83, Try.ntmps83
  go_wp2
  have hB : (((w.alloc (.cells #[.int .i64 4, .slice (some ⟨w.heap.size + 1, 0, none⟩) 6 6, .int .i64 2, .slice A l.length k] 26)).alloc (.cells (bcells (hornC l).bs).toArray 35))).heap[w.heap.size + 1]? = some (.cells (bcells (hornC l).bs).toArray 35 (0, 0)) := by
    have := heap_alloc_new (w.alloc (.cells #[.int .i64 4, .slice (some ⟨w.heap.size + 1, 0, none⟩) 6 6, .int .i64 2, .slice A l.length k] 26)) (.cells (bcells (hornC l).bs).toArray 35)
    simpa using this
  have hx := Ext.alloc (Ext.alloc (Ext.refl w) (.cells #[.int .i64 4, .slice (some ⟨w.heap.size + 1, 0, none⟩) 6 6, .int .i64 2, .slice A l.length k] 26)) (.cells (bcells (hornC l).bs).toArray 35)
  refine bodyPost_ret (v := .agg #[.int .i64 4, .slice (some ⟨w.heap.size + 1, 0, none⟩) 6 6, .int .i64 2, .slice A l.length k]) ?_ rfl ⟨_, rfl, ⟨some ⟨w.heap.size + 1, 0, none⟩, 6, A, k, rfl, rd_block hB, hA.ext hx⟩, hx⟩
  simp [results, Try.results83, go_sem]

theorem own_one_claim (w : World) (B C : Nat) (hB : w.heap[B]? = some (.cells #[.int .i64 1, .int .i64 0, .int .i64 (-50)] 35 (0, 0))) (hC : w.heap[C]? = some (.cells #[.int .i64 0, .slice (some ⟨B, 0, none⟩) 1 1] 37 (0, 0))) : Claims w (some ⟨C, 0, none⟩) lieL := by
  refine ⟨_, rd_block (xs := [.int .i64 0, .slice (some ⟨B, 0, none⟩) 1 1]) hC, rfl, ⟨some ⟨B, 0, none⟩, 1, rfl, ?_⟩, trivial⟩
  exact rd_block (xs := bcells [⟨1, 0, -50⟩]) hB
theorem horn_sized (l : List Cl) (h : l = [] ∨ l = lieL) : (hornC l).sized := by
  rcases h with rfl | rfl <;> exact ⟨by decide, by decide, by decide⟩

set_option maxRecDepth 100000 in
set_option maxHeartbeats 4000000 in
theorem awake_any (w : World) : Calls Try.prog 22 #[] w fun e w' => e = .returned (.bool true) ∧ Ext w w' := by
  have z0 := horn_sized [] (.inl rfl)
  have z1 := horn_sized lieL (.inr rfl)
  go_enter Try.func22, Try.ntmps22
  go_wp2_with fail
  refine (horn_any none 0 [] w (Claims.nil w none)).mono ?_
  rintro e w1 ⟨v1, rfl, h1, x1⟩
  go_wp2_with fail
  refine (gap_any v1 (hornC []) 0 2 w1 h1 z0).mono ?_
  rw [horn_gap]
  rintro e w2 ⟨rfl, x2⟩
  have y2 := x1.trans x2
  clear x1 x2 h1
  go_wp2_with fail
  refine (horn_any none 0 [] w2 (Claims.nil w2 none)).mono ?_
  rintro e w3 ⟨v3, rfl, h3, x3⟩
  go_wp2_with fail
  refine (before_any v3 (hornC []) 2 3 w3 h3 z0).mono ?_
  rw [horn_before]
  rintro e w4 ⟨rfl, x4⟩
  have y4 := y2.trans (x3.trans x4)
  clear x3 x4 h3 y2
  go_wp2_with fail
  refine (horn_any none 0 [] w4 (Claims.nil w4 none)).mono ?_
  rintro e w5 ⟨v5, rfl, h5, x5⟩
  go_wp2_with fail
  refine (shows_any v5 (hornC []) 3 2 (some ⟨w5.heap.size, 0, none⟩) 3 [5, 0, 2] _ (h5.ext (Ext.alloc (Ext.refl w5) _)) z0 ?i5 (by decide)).mono ?_
  case i5 => exact rd_block (xs := [.int .i64 5, .int .i64 0, .int .i64 2]) (heap_alloc_new w5 _)
  rw [horn_shows]
  rintro e w6 ⟨rfl, x6⟩
  have y6 := y4.trans (x5.trans (Ext.alloc_cell x6))
  clear x5 x6 h5 y4
  go_wp2_with fail
  refine (horn_any (some ⟨w6.heap.size + 1, 0, none⟩) 1 lieL _ ?i6).mono ?_
  case i6 =>
    refine own_one_claim _ w6.heap.size (w6.heap.size + 1) ?_ ?_
    · exact (Below.block (Ext.alloc (Ext.refl _) _) _ (by simp)).trans (heap_alloc_new w6 _)
    · have := heap_alloc_new (w6.alloc (.cells #[.int .i64 1, .int .i64 0, .int .i64 (-50)] 35)) (.cells #[.int .i64 0, .slice (some ⟨w6.heap.size, 0, none⟩) 1 1] 37)
      simpa using this
  rintro e w7 ⟨v7, rfl, h7, x7⟩
  obtain ⟨A1, c1, A2, c2, rfl, p1, p2⟩ := h7
  have y7 := y6.trans (Ext.alloc_cell (Ext.alloc_cell x7))
  clear x7 y6
  go_wp2_with fail
  have x8 := Ext.alloc (Ext.refl w7) (.cells #[.int .i64 (hornC lieL).ev, .slice A1 (hornC lieL).bs.length c1, .int .i64 (hornC lieL).wi, .slice A2 (hornC lieL).cl.length c2] 26)
  have C8 : CsR (w7.alloc (.cells #[.int .i64 (hornC lieL).ev, .slice A1 (hornC lieL).bs.length c1, .int .i64 (hornC lieL).wi, .slice A2 (hornC lieL).cl.length c2] 26)) (.agg #[.int .i64 (hornC lieL).ev, .slice A1 (hornC lieL).bs.length c1, .int .i64 (hornC lieL).wi, .slice A2 (hornC lieL).cl.length c2]) (hornC lieL) := ⟨A1, c1, A2, c2, rfl, p1.ext x8, p2.ext x8⟩
  refine (liars_any _ (hornC lieL) _ C8 z1).mono ?_
  rw [lie_liars]
  rintro e w9 ⟨r9, rfl, x9, -, q9⟩
  obtain ⟨l9, A9, c9, hl9, rfl, i9⟩ := q9 rfl
  rw [lie_few] at hl9
  obtain rfl : l9 = [0] := (Option.some.inj hl9).symm
  have C9 := C8.ext x9
  have y9 := y7.trans (x8.trans x9)
  have k0 := x9.cell (p := ⟨w7.heap.size, 0, none⟩) (u := .int .i64 (hornC lieL).ev) (by simp [go_sem])
  have k1 := x9.cell (p := ⟨w7.heap.size, 1, none⟩) (u := .slice A1 (hornC lieL).bs.length c1) (by simp [go_sem])
  have k2 := x9.cell (p := ⟨w7.heap.size, 2, none⟩) (u := .int .i64 (hornC lieL).wi) (by simp [go_sem])
  have k3 := x9.cell (p := ⟨w7.heap.size, 3, none⟩) (u := .slice A2 (hornC lieL).cl.length c2) (by simp [go_sem])
  clear x8 x9 hl9 q9 C8 y7 p1 p2
  go_wp2_with fail
  refine (horn_any none 0 [] w9 (Claims.nil w9 none)).mono ?_
  rintro e w10 ⟨v10, rfl, h10, x10⟩
  go_wp2_with fail
  refine (ring_any v10 (hornC []) w10 h10 z0).mono ?_
  rw [horn_ring]
  rintro e w11 ⟨r11, rfl, x11, q11, -⟩
  obtain rfl := q11 (by decide)
  have x911 := x10.trans x11
  have y11 := y9.trans x911
  have C11 := C9.ext x911
  have i11 := i9.ext x911
  have k0 := x911.cell k0
  have k1 := x911.cell k1
  have k2 := x911.cell k2
  have k3 := x911.cell k3
  clear x10 x11 h10 q11 y9 C9 i9 x911
  go_wp2_with fail
  refine (truth_any _ (hornC lieL) w11 C11 z1).mono ?_
  rw [lie_told]
  rintro e w12 ⟨r12, rfl, x12, -, q12⟩
  obtain rfl := q12 (by decide)
  have y12 := y11.trans x12
  have i12 := i11.ext x12
  clear q12 y11 C11 i11 x12
  go_wp2_with fail
  refine (horn_any none 0 [] w12 (Claims.nil w12 none)).mono ?_
  rintro e w13 ⟨v13, rfl, h13, x13⟩
  go_wp2_with fail
  refine (ask_any v13 (hornC []) 2 3 w13 h13 z0).mono ?_
  rw [horn_ask]
  rintro e w14 ⟨rfl, x14⟩
  have y14 := y12.trans (x13.trans x14)
  have i14 := i12.ext (x13.trans x14)
  clear x13 x14 h13 y12 i12
  go_wp2_with fail
  have x15 := Ext.alloc (Ext.alloc (Ext.refl w14) (.cells #[.int .i64 4, .int .i64 48] 59)) (.cells #[.int .i64 0] 3)
  refine (eq_int A9 (some ⟨w14.heap.size + 1, 0, none⟩) c9 1 [0] [0] _ (i14.ext x15) ?i15 (by decide) (by decide)).mono ?_
  case i15 =>
    refine rd_block (xs := [.int .i64 0]) (T := 3) (fr := (0, 0)) ?_
    have := heap_alloc_new (w14.alloc (.cells #[.int .i64 4, .int .i64 48] 59)) (.cells #[.int .i64 0] 3)
    simpa using this
  rintro e w16 ⟨rfl, x16⟩
  have m0 := x16.cell (p := ⟨w14.heap.size, 0, none⟩) (u := .int .i64 4) (by simp [go_sem])
  have m1 := x16.cell (p := ⟨w14.heap.size, 1, none⟩) (u := .int .i64 48) (by simp [go_sem])
  have y16 := y14.trans (x15.trans x16)
  clear x15 x16 y14
  go_wp2
  go_ret
  exact ⟨rfl, y16⟩
end Go.Proofs.Ytgnjhaomlbkgcaa

namespace Go.Proofs.Ytgnjhaomlbkgcaa
open Go Go.RowKit
set_option linter.unusedVariables false
set_option linter.unusedSimpArgs false

theorem great_sized2 {c : Cs} (h : greatC c = false) : c.bs.length * 24 ≤ 140737488355328 ∧ c.cl.length * 32 ≤ 140737488355328 ∧ ∀ x ∈ c.cl, x.bs.length * 24 ≤ 140737488355328 := by
  unfold greatC at h
  simp only [Bool.or_eq_false_iff, decide_eq_false_iff_not, List.any_eq_false] at h
  obtain ⟨⟨h1, h2⟩, h3⟩ := h
  refine ⟨by omega, by omega, fun x hx => ?_⟩
  have h4 := h1 x hx
  simp only [decide_eq_true_eq] at h4
  omega
/-- Where minutes are in order. -/
theorem min_facts {c : Cs} {l : List Int} (h : minutesC c l = 0) : ∃ z, l[0]? = some z ∧ brokenC c l = (if z = 0 then 0 else 8) ∧ holdsB c l = (decide (z = 0) && (((brkC c l).length : Int) == 0)) := by
  obtain ⟨h0, h1, h2⟩ := minutesC_ok h
  have hev := checkC_ev h0
  obtain ⟨z, hz⟩ := get_of_lt l 0 (by omega)
  have e : ((brkC c l).isEmpty) = (((brkC c l).length : Int) == 0) := by
    cases brkC c l with
    | nil => rfl
    | cons a t => simp; omega
  have hb : brokenC c l = (if z = 0 then 0 else 8) := by
    unfold brokenC
    rw [if_neg (by simp [h]), List.getD_eq_getElem?_getD, hz, Option.getD_some]
    by_cases hz0 : z = 0
    · rw [if_pos hz0, if_neg (by simp [hz0])]
    · rw [if_neg hz0, if_pos hz0]
  refine ⟨z, hz, hb, ?_⟩
  unfold holdsB
  rw [hb, e]
  by_cases hz0 : z = 0
  · simp [hz0]
  · simp [hz0]
theorem min_err {c : Cs} {l : List Int} {M : Int} (h : minutesC c l = M) (h0 : M ≠ 0) : brokenC c l = M ∧ holdsB c l = false := by
  have hb : brokenC c l = M := by unfold brokenC; rw [h, if_pos h0]
  refine ⟨hb, ?_⟩
  unfold holdsB
  rw [hb, decide_eq_false h0]; rfl
theorem told_is {c : Cs} (h0 : checkC c = 0) : toldC c = if clashM (gapsM allT c) then 7 else 0 := by unfold toldC; rw [if_pos h0]
theorem told_err {c : Cs} (h0 : checkC c ≠ 0) : toldC c = checkC c := by unfold toldC; rw [if_neg h0]
theorem latest_err {c : Cs} {W : Int} (h : toldC c = W) (h0 : W ≠ 0) : latestC c = W := by unfold latestC; rw [h, if_pos h0]

set_option maxRecDepth 100000 in
set_option maxHeartbeats 8000000 in
theorem truw_any (v : Value) (c : Cs) (A : Option Addr) (k : Nat) (row : List Int) (w : World) (hc : CsR w v c) (hs : c.sized) (hA0 : Ints w A row) :
    Calls Try.prog 9 #[v, .slice A row.length k] w fun e w' => e = .returned (.bool true) ∧ Ext w w' := by
  have hc' := hc
  obtain ⟨A1, c1, A2, c2, rfl, hB, hC⟩ := hc
  have HSZ := hid hs
  obtain ⟨W0, hW0⟩ : ∃ W0, w.alloc (.cells #[.int .i64 c.ev, .slice A1 c.bs.length c1, .int .i64 c.wi, .slice A2 c.cl.length c2] 26) = W0 := ⟨_, rfl⟩
  have hx0 : Ext w W0 := by rw [← hW0]; exact Ext.alloc (Ext.refl w) _
  have FX : Hid (∀ w', Ext W0 w' → w'.cell? ⟨w.heap.size, 0, none⟩ = some (.int .i64 c.ev) ∧ w'.cell? ⟨w.heap.size, 1, none⟩ = some (.slice A1 c.bs.length c1) ∧ w'.cell? ⟨w.heap.size, 2, none⟩ = some (.int .i64 c.wi) ∧ w'.cell? ⟨w.heap.size, 3, none⟩ = some (.slice A2 c.cl.length c2)) := fun w' h => ⟨h.cell (by rw [← hW0]; simp [go_sem]), h.cell (by rw [← hW0]; simp [go_sem]), h.cell (by rw [← hW0]; simp [go_sem]), h.cell (by rw [← hW0]; simp [go_sem])⟩
  obtain ⟨q0, q1, q2, q3⟩ := FX.out W0 (Ext.refl _)
  have K1 := great_any _ c W0 (hc'.ext hx0) hs
  obtain ⟨GR, hGR⟩ : ∃ GR, greatC c = GR := ⟨_, rfl⟩
  rw [hGR] at K1
  have HGR := hid hGR
  clear hs hB hC
  go_enter Try.func9, Try.ntmps9
  go_wp2_with fail
  clear hW0 q0 q1 q2 q3
  refine K1.mono ?_
  clear K1
  rintro e w1 ⟨rfl, hb1⟩
  have hx1 := hx0.trans hb1
  clear hGR
  cases GR
  case true =>
    go_wp2_with fail
    refine (awake_any w1).mono ?_
    rintro e w2 ⟨rfl, hb2⟩
    go_wp2
    go_ret
    exact ⟨rfl, hx1.trans hb2⟩
  by_cases hr60 : (12 : Int) < (row.length : Int)
  · go_wp2_with fail
    refine (awake_any w1).mono ?_
    rintro e w2 ⟨rfl, hb2⟩
    go_wp2
    go_ret
    exact ⟨rfl, hx1.trans hb2⟩
  obtain ⟨hl1, hl2, hl3⟩ := great_sized2 HGR.out
  have HL3 := hid hl3
  have hl : row.length * 8 ≤ 140737488355328 := by omega
  clear HGR hl3
  have HC : Hid (∀ w', Ext w1 w' → CsR w' (.agg #[.int .i64 c.ev, .slice A1 c.bs.length c1, .int .i64 c.wi, .slice A2 c.cl.length c2]) c) := fun w' h => hc'.ext (hx1.trans h)
  have HA : Hid (∀ w', Ext w1 w' → Ints w' A row) := fun w' h => hA0.ext (hx1.trans h)
  clear hc' hA0
  go_wp2
  refine wp_region_shut_tail Ext (fun w' => Ext w1 w') (fun
    | 1 => some (fun v w' => ∃ B, OwnCs w' B v c)
    | 3 => some (fun v w' => ∃ g c', v = .slice (some ⟨g, 0, none⟩) row.length c' ∧ ∃ B, w'.ownsRow B 3 1 (.slice (some ⟨g, 0, none⟩) row.length c') row.length (row.map (.int .i64)))
    | 5 => some (fun v w' => TheirsCs w' v c)
    | 6 => some (fun v w' => ∃ B, v = .pointer (some ⟨B, 0, none⟩) ∧ w1.heap.size ≤ B ∧ w'.heap[B]? = some (.cells #[.int .i64 0, .slice none 0 0, .int .i64 0, .slice none 0 0] 26 (0, 0)))
    | 7 => some (fun v w' => ∃ B, v = .pointer (some ⟨B, 0, none⟩) ∧ w1.heap.size ≤ B ∧ w'.heap[B]? = some (.cells #[.int .i64 0, .slice none 0 0, .int .i64 0, .slice none 0 0] 72 (0, 0)))
    | _ => none) 8 (by kernel_rfl) (by kernel_rfl) (fun _ _ h k => h.trans k) ?hT (Ext.drew (Ext.refl w1)) ?_
  case hT =>
    intro i R hR
    match i, hR with
    | 1, hR => cases hR; exact fun _ _ _ ⟨B, h⟩ k => ⟨B, h.ext k⟩
    | 3, hR => cases hR; exact fun _ _ _ ⟨g, c', e, B, h⟩ k => ⟨g, c', e, B, own_below h k⟩
    | 5, hR => cases hR; exact fun _ _ _ h k => h.ext k
    | 6, hR => cases hR; exact fun _ _ _ ⟨B, e, h1, h⟩ k => ⟨B, e, h1, (Below.block k B (Array.getElem?_eq_some_iff.1 h).1).trans h⟩
    | 7, hR => cases hR; exact fun _ _ _ ⟨B, e, h1, h⟩ k => ⟨B, e, h1, (Below.block k B (Array.getElem?_eq_some_iff.1 h).1).trans h⟩
  refine wM_val ?ua0 rfl rfl Ext.refl (fun w' hD => ?ha0) (fun pha0 => ?na0)
  case ha0 =>
    obtain ⟨d0, d1, d2, d3⟩ := FX.out _ (hb1.trans hD.1)
    go_simp; rfl
  simp only [Act.put, List.setIfInBounds_toArray, List.set_cons_succ, List.set_cons_zero, Nat.reduceAdd]
  refine wM_op _ rfl rfl (opens_call ?fa1 ?ga1 (fun w' hD => ?ha1) (fun w' hD => ?ca1)) (fun v1 hv1 => ?na1)
  case ha1 => go_simp; constructor <;> rfl
  case ca1 =>
    refine (own_any _ c w' (HC.out w' hD.1) hl1 hl2 HL3.out).mono ?_
    rintro e w2 ⟨v, rfl, ho, hb⟩
    exact ⟨_, rfl, hb, _, ho⟩
  obtain ⟨_, -, -, B1, g1, k1, g2, k2, gs, xs1, rfl, -⟩ := hv1
  simp only [Act.put, List.setIfInBounds_toArray, List.set_cons_succ, List.set_cons_zero, Nat.reduceAdd]
  refine wM_val ?ua2 rfl rfl Ext.refl (fun w' hD => ?ha2) (fun pha2 => ?na2)
  case ha2 =>
    obtain ⟨d0, d1, d2, d3⟩ := FX.out _ (hb1.trans hD.1)
    go_simp; rfl
  simp only [Act.put, List.setIfInBounds_toArray, List.set_cons_succ, List.set_cons_zero, Nat.reduceAdd]
  refine wM_op _ rfl rfl (opens_call ?fa3 ?ga3 (fun w' hD => ?ha3) (fun w' hD => ?ca3)) (fun v3 hv3 => ?na3)
  case ha3 => go_simp; constructor <;> rfl
  case ca3 =>
    refine (dup_int A k row w' (HA.out w' hD.1) hl).mono ?_
    rintro e w2 ⟨g, c', rfl, ho, hb⟩
    exact ⟨_, rfl, hb, g, c', rfl, _, ho⟩
  obtain ⟨_, -, -, gd, kd, rfl, -⟩ := hv3
  simp only [Act.put, List.setIfInBounds_toArray, List.set_cons_succ, List.set_cons_zero, Nat.reduceAdd]
  refine wM_val ?ua4 rfl rfl Ext.refl (fun w' hD => ?ha4) (fun pha4 => ?na4)
  case ha4 =>
    obtain ⟨d0, d1, d2, d3⟩ := FX.out _ (hb1.trans hD.1)
    go_simp; rfl
  simp only [Act.put, List.setIfInBounds_toArray, List.set_cons_succ, List.set_cons_zero, Nat.reduceAdd]
  refine wM_op _ rfl rfl (opens_call ?fa5 ?ga5 (fun w' hD => ?ha5) (fun w' hD => ?ca5)) (fun v5 hv5 => ?na5)
  case ha5 => go_simp; constructor <;> rfl
  case ca5 =>
    refine (theirs_any _ c w' (HC.out w' hD.1) hl1 hl2 HL3.out).mono ?_
    rintro e w2 ⟨v', rfl, ho, hb⟩
    exact ⟨_, rfl, hb, ho⟩
  obtain ⟨_, -, -, A5, k5, A6, k6, xs5, B5, rfl, -⟩ := hv5
  simp only [Act.put, List.setIfInBounds_toArray, List.set_cons_succ, List.set_cons_zero, Nat.reduceAdd]
  refine wM_op _ rfl rfl (opens_val (fun w' hD => ?hm6)) (fun va6 hva6 => ?nm6)
  case hm6 =>
    refine ⟨.pointer (some ⟨w'.heap.size, 0, none⟩), w'.alloc (.cells #[.int .i64 0, .slice none 0 0, .int .i64 0, .slice none 0 0] 26), ?_, Ext.alloc (Ext.refl _) _, w'.heap.size, rfl, hD.1.size, World.alloc_heap_new _ _⟩
    go_simp
  obtain ⟨_, -, -, Ba, rfl, -⟩ := hva6
  simp only [Act.put, List.setIfInBounds_toArray, List.set_cons_succ, List.set_cons_zero, Nat.reduceAdd]
  refine wM_op _ rfl rfl (opens_val (fun w' hD => ?hm7)) (fun va7 hva7 => ?nm7)
  case hm7 =>
    refine ⟨.pointer (some ⟨w'.heap.size, 0, none⟩), w'.alloc (.cells #[.int .i64 0, .slice none 0 0, .int .i64 0, .slice none 0 0] 72), ?_, Ext.alloc (Ext.refl _) _, w'.heap.size, rfl, hD.1.size, World.alloc_heap_new _ _⟩
    go_simp
  obtain ⟨_, -, -, Bb, rfl, -⟩ := hva7
  simp only [Act.put, List.setIfInBounds_toArray, List.set_cons_succ, List.set_cons_zero, Nat.reduceAdd]
  refine wM_nil ?_
  intro w9 hw9 hF9
  obtain ⟨-, B1', ho1⟩ := hF9 1
  obtain ⟨-, gd', kd', e3, Bd, ho3⟩ := hF9 3
  cases e3
  obtain ⟨-, ho5⟩ := hF9 5
  obtain ⟨-, Ba', e6, hBa, GA⟩ := hF9 6
  cases e6
  obtain ⟨-, Bb', e7, hBb, GB⟩ := hF9 7
  cases e7
  clear hF9
  have hab : Ba ≠ Bb := fun e => by
    rw [e, GB] at GA
    injection GA with e1
    injection e1 with _ e2 _
    exact absurd e2 (by decide)
  have hba : Bb ≠ Ba := fun e => hab e.symm
  have hCB : CaseB w9 (fun n => n = Ba ∨ n = Bb) := fun n hn => by
    rcases hn with e | e
    · exact ⟨_, _, by rw [e]; exact GA, .inl rfl⟩
    · exact ⟨_, _, by rw [e]; exact GB, .inr rfl⟩
  obtain ⟨Wn, hWn⟩ : ∃ Wn, ((((((((w9.setCell ⟨Ba, 0, none⟩ (.int .i64 c.ev)).setCell ⟨Ba, 1, none⟩ (.slice (some ⟨g1, 0, none⟩) c.bs.length k1)).setCell ⟨Ba, 2, none⟩ (.int .i64 c.wi)).setCell ⟨Ba, 3, none⟩ (.slice (some ⟨g2, 0, none⟩) c.cl.length k2)).setCell ⟨Bb, 0, none⟩ (.int .i64 c.ev)).setCell ⟨Bb, 1, none⟩ (.slice A5 c.bs.length k5)).setCell ⟨Bb, 2, none⟩ (.int .i64 c.wi)).setCell ⟨Bb, 3, none⟩ (.slice A6 c.cl.length k6)) = Wn := ⟨_, rfl⟩
  have hbn : BelS (fun n => n = Ba ∨ n = Bb) w9 Wn := by
    rw [← hWn]
    exact (((((((((BelS.refl _ w9).setCell (S := fun n => n = Ba ∨ n = Bb) ⟨Ba, 0, none⟩ _ (.inl rfl)).setCell (S := fun n => n = Ba ∨ n = Bb) ⟨Ba, 1, none⟩ _ (.inl rfl)).setCell (S := fun n => n = Ba ∨ n = Bb) ⟨Ba, 2, none⟩ _ (.inl rfl)).setCell (S := fun n => n = Ba ∨ n = Bb) ⟨Ba, 3, none⟩ _ (.inl rfl)).setCell (S := fun n => n = Ba ∨ n = Bb) ⟨Bb, 0, none⟩ _ (.inr rfl)).setCell (S := fun n => n = Ba ∨ n = Bb) ⟨Bb, 1, none⟩ _ (.inr rfl)).setCell (S := fun n => n = Ba ∨ n = Bb) ⟨Bb, 2, none⟩ _ (.inr rfl)).setCell (S := fun n => n = Ba ∨ n = Bb) ⟨Bb, 3, none⟩ _ (.inr rfl))
  have hx0n : Ext W0 Wn := by
    have h1 : W0.heap.size ≤ Ba := Nat.le_trans hb1.size hBa
    have h2 : W0.heap.size ≤ Bb := Nat.le_trans hb1.size hBb
    rw [← hWn]
    exact (((((((((hb1.trans hw9).setCell (by simpa using h1) _).setCell (by simpa using h1) _).setCell (by simpa using h1) _).setCell (by simpa using h1) _).setCell (by simpa using h2) _).setCell (by simpa using h2) _).setCell (by simpa using h2) _).setCell (by simpa using h2) _)
  have hx1n : Ext w1 Wn := by
    rw [← hWn]
    exact ((((((((hw9.setCell (by simpa using hBa) _).setCell (by simpa using hBa) _).setCell (by simpa using hBa) _).setCell (by simpa using hBa) _).setCell (by simpa using hBb) _).setCell (by simpa using hBb) _).setCell (by simpa using hBb) _).setCell (by simpa using hBb) _)
  have p0 := block_cell (i := 0) GA
  have p1 := block_cell (i := 1) GA
  have p2 := block_cell (i := 2) GA
  have p3 := block_cell (i := 3) GA
  have f0 := block_free (i := 0) GA
  have f1 := block_free (i := 1) GA
  have f2 := block_free (i := 2) GA
  have f3 := block_free (i := 3) GA
  have u0 := block_cell (i := 0) GB
  have u1 := block_cell (i := 1) GB
  have u2 := block_cell (i := 2) GB
  have u3 := block_cell (i := 3) GB
  have v0 := block_free (i := 0) GB
  have v1 := block_free (i := 1) GB
  have v2 := block_free (i := 2) GB
  have v3 := block_free (i := 3) GB
  simp only [List.getElem?_toArray, List.getElem?_cons_zero, List.getElem?_cons_succ] at p0 p1 p2 p3 u0 u1 u2 u3
  have FN : Hid (((Wn.cell? ⟨Ba, 0, none⟩ = some (.int .i64 c.ev) ∧ Wn.cell? ⟨Ba, 1, none⟩ = some (.slice (some ⟨g1, 0, none⟩) c.bs.length k1) ∧ Wn.cell? ⟨Ba, 2, none⟩ = some (.int .i64 c.wi) ∧ Wn.cell? ⟨Ba, 3, none⟩ = some (.slice (some ⟨g2, 0, none⟩) c.cl.length k2)) ∧ Wn.cell? ⟨Bb, 0, none⟩ = some (.int .i64 c.ev) ∧ Wn.cell? ⟨Bb, 1, none⟩ = some (.slice A5 c.bs.length k5) ∧ Wn.cell? ⟨Bb, 2, none⟩ = some (.int .i64 c.wi) ∧ Wn.cell? ⟨Bb, 3, none⟩ = some (.slice A6 c.cl.length k6))) := by
    unfold Hid
    rw [← hWn]
    have hab' := hab
    have hba' := hba
    simp [go_sem, p0, p1, p2, p3, u0, u1, u2, u3, hab', hba']
  have HOC : Hid (CsR Wn (.agg #[.int .i64 c.ev, .slice (some ⟨g1, 0, none⟩) c.bs.length k1, .int .i64 c.wi, .slice (some ⟨g2, 0, none⟩) c.cl.length k2]) c) := ho1.stores hCB hbn
  have HXC : Hid (CsR Wn (.agg #[.int .i64 c.ev, .slice A5 c.bs.length k5, .int .i64 c.wi, .slice A6 c.cl.length k6]) c) := ho5.stores hCB hbn
  have HDI : Hid (Ints Wn (some ⟨gd, 0, none⟩) row) := Rd.of_own (hCB.own hbn ho3 (by decide) (by decide))
  clear ho1 ho3 ho5 hCB hbn GA GB
  simp only [List.drop_succ_cons, List.drop_zero]
  obtain ⟨⟨a0, a1, a2, a3⟩, x0, x1, x2, x3⟩ := FN.out
  have FC : Hid (∀ w', Ext Wn w' → (w'.cell? ⟨Ba, 0, none⟩ = some (.int .i64 c.ev) ∧ w'.cell? ⟨Ba, 1, none⟩ = some (.slice (some ⟨g1, 0, none⟩) c.bs.length k1) ∧ w'.cell? ⟨Ba, 2, none⟩ = some (.int .i64 c.wi) ∧ w'.cell? ⟨Ba, 3, none⟩ = some (.slice (some ⟨g2, 0, none⟩) c.cl.length k2)) ∧ (w'.cell? ⟨Bb, 0, none⟩ = some (.int .i64 c.ev) ∧ w'.cell? ⟨Bb, 1, none⟩ = some (.slice A5 c.bs.length k5) ∧ w'.cell? ⟨Bb, 2, none⟩ = some (.int .i64 c.wi) ∧ w'.cell? ⟨Bb, 3, none⟩ = some (.slice A6 c.cl.length k6)) ∧ w'.cell? ⟨w.heap.size, 0, none⟩ = some (.int .i64 c.ev) ∧ w'.cell? ⟨w.heap.size, 1, none⟩ = some (.slice A1 c.bs.length c1) ∧ w'.cell? ⟨w.heap.size, 2, none⟩ = some (.int .i64 c.wi) ∧ w'.cell? ⟨w.heap.size, 3, none⟩ = some (.slice A2 c.cl.length c2)) := fun w' h => ⟨⟨h.cell a0, h.cell a1, h.cell a2, h.cell a3⟩, ⟨h.cell x0, h.cell x1, h.cell x2, h.cell x3⟩, FX.out w' (hx0n.trans h)⟩
  obtain ⟨-, -, q0, q1, q2, q3⟩ := FC.out Wn (Ext.refl _)
  have HO : Hid (∀ w', Ext Wn w' → CsR w' (.agg #[.int .i64 c.ev, .slice (some ⟨g1, 0, none⟩) c.bs.length k1, .int .i64 c.wi, .slice (some ⟨g2, 0, none⟩) c.cl.length k2]) c) := fun w' h => HOC.out.ext h
  have HXX : Hid (∀ w', Ext Wn w' → CsR w' (.agg #[.int .i64 c.ev, .slice A5 c.bs.length k5, .int .i64 c.wi, .slice A6 c.cl.length k6]) c) := fun w' h => HXC.out.ext h
  have HV : Hid (∀ w', Ext Wn w' → CsR w' (.agg #[.int .i64 c.ev, .slice A1 c.bs.length c1, .int .i64 c.wi, .slice A2 c.cl.length c2]) c) := fun w' h => HC.out w' (hx1n.trans h)
  have HD : Hid (∀ w', Ext Wn w' → Ints w' (some ⟨gd, 0, none⟩) row) := fun w' h => HDI.out.ext h
  have HA' : Hid (∀ w', Ext Wn w' → Ints w' A row) := fun w' h => HA.out w' (hx1n.trans h)
  have HXN : Hid (Ext w Wn) := hx1.trans hx1n
  have HLL : Hid (row.length ≤ 9223372036854775807) := by unfold Hid; omega
  have h0 : Ext Wn Wn := Ext.refl _
  clear FX HC HA HOC HXC HDI FN hx0n hx1n hx1 hx0 hb1 hBa hBb hw9
  obtain ⟨M, hM⟩ : ∃ M, minutesC c row = M := ⟨_, rfl⟩
  have HM := hid hM
  have K := refminutes_any _ c A k row Wn (HXX.out Wn h0) HSZ.out (HA'.out Wn h0) HLL.out
  rw [hM] at K
  have HK := hid K
  have n1 : (M != M) = false := by simp
  clear K hM
  go_wp2_with fail
  clear hWn hab hba p0 p1 p2 p3 u0 u1 u2 u3 f0 f1 f2 f3 v0 v1 v2 v3 hl hl1 hl2 HL3
  clear a0 a1 a2 a3 x0 x1 x2 x3 q0 q1 q2 q3
  refine HK.out.mono ?_
  clear HK
  rintro e w10 ⟨rfl, h⟩
  have h10 : Ext Wn w10 := h
  clear h h0
  by_cases hM0 : M = 0
  case neg =>
    obtain ⟨hbe, hhe⟩ := min_err HM.out hM0
    have HBE := hid hbe
    have HHE := hid hhe
    have b1 : (M == 0) = false := by simpa using hM0
    clear hbe hhe
    have K := holdsw_any _ c (some ⟨gd, 0, none⟩) kd row w10 (HO.out w10 h10) HSZ.out (HD.out w10 h10) HLL.out
    rw [HM.out, HHE.out] at K
    have HK := hid K
    clear K
    obtain ⟨⟨a0, a1, a2, a3⟩, ⟨x0, x1, x2, x3⟩, q0, q1, q2, q3⟩ := FC.out w10 h10
    go_wp2_with fail
    clear a0 a1 a2 a3 x0 x1 x2 x3 q0 q1 q2 q3
    refine (HK.out).mono ?_
    rintro e w11 ⟨rfl, h⟩
    have h11 := h10.trans h
    clear h
    clear HK
    have K := brokenw_any _ c (some ⟨gd, 0, none⟩) kd row w11 (HO.out w11 h11) HSZ.out (HD.out w11 h11) HLL.out
    rw [HBE.out] at K
    have HK := hid K
    clear K
    obtain ⟨⟨a0, a1, a2, a3⟩, ⟨x0, x1, x2, x3⟩, q0, q1, q2, q3⟩ := FC.out w11 h11
    go_wp2_with fail
    clear a0 a1 a2 a3 x0 x1 x2 x3 q0 q1 q2 q3
    refine (HK.out).mono ?_
    rintro e w12 ⟨r9, rfl, h, hr9, -⟩
    have h12 := h11.trans h
    clear h
    clear HK
    obtain rfl := hr9 hM0
    clear hr9
    have K := eq_int none none 0 0 [] [] w12 (Ints.nil _ _) (Ints.nil _ _) (by decide) (by decide)
    rw [beq_self_eq_true] at K
    simp only [List.length_nil] at K
    have HK := hid K
    clear K
    obtain ⟨⟨a0, a1, a2, a3⟩, ⟨x0, x1, x2, x3⟩, q0, q1, q2, q3⟩ := FC.out w12 h12
    go_wp2_with fail
    clear a0 a1 a2 a3 x0 x1 x2 x3 q0 q1 q2 q3
    refine (HK.out).mono ?_
    rintro e w13 ⟨rfl, h⟩
    have h13 := h12.trans h
    clear h
    clear HK
    have K := eq_int (some ⟨gd, 0, none⟩) A kd k row row w13 (HD.out w13 h13) (HA'.out w13 h13) HLL.out HLL.out
    rw [beq_self_eq_true] at K
    have HK := hid K
    clear K
    obtain ⟨⟨a0, a1, a2, a3⟩, ⟨x0, x1, x2, x3⟩, q0, q1, q2, q3⟩ := FC.out w13 h13
    go_wp2_with fail
    clear a0 a1 a2 a3 x0 x1 x2 x3 q0 q1 q2 q3
    refine (HK.out).mono ?_
    rintro e w14 ⟨rfl, h⟩
    have h14 := h13.trans h
    clear h
    clear HK
    by_cases hc0 : checkC c = 0
    case neg =>
      obtain ⟨W, hWe⟩ : ∃ W, checkC c = W := ⟨_, rfl⟩
      have hW : W ≠ 0 := by rw [← hWe]; exact hc0
      have HTC : Hid (toldC c = W) := by unfold Hid; rw [told_err hc0, hWe]
      have HLC : Hid (latestC c = W) := latest_err HTC.out hW
      have HWE := hid hWe
      have m1 : (W == W) = true := by simp
      have m2 : (W != 0) = true := by simpa using hW
      have m3 : (W == 0) = false := by simpa using hW
      clear hWe hc0
      have K := truth_any _ c w14 (HO.out w14 h14) HSZ.out
      rw [HTC.out] at K
      have HK := hid K
      clear K
      obtain ⟨⟨a0, a1, a2, a3⟩, ⟨x0, x1, x2, x3⟩, q0, q1, q2, q3⟩ := FC.out w14 h14
      go_wp2_with fail
      clear a0 a1 a2 a3 x0 x1 x2 x3 q0 q1 q2 q3
      refine (HK.out).mono ?_
      rintro e w15 ⟨r1, rfl, h, -, hr1⟩
      have h15 := h14.trans h
      clear h
      obtain rfl := hr1 hW
      clear HK hr1
      have K := latest_any _ c w15 (HO.out w15 h15) HSZ.out
      rw [HLC.out] at K
      have HK := hid K
      clear K
      obtain ⟨⟨a0, a1, a2, a3⟩, ⟨x0, x1, x2, x3⟩, q0, q1, q2, q3⟩ := FC.out w15 h15
      go_wp2_with fail
      clear a0 a1 a2 a3 x0 x1 x2 x3 q0 q1 q2 q3
      refine (HK.out).mono ?_
      rintro e w16 ⟨r2, rfl, h, -, hr2⟩
      have h16 := h15.trans h
      clear h
      obtain rfl := hr2 hW
      clear HK hr2
      have K := refcheck_any _ c w16 (HXX.out w16 h16) HSZ.out
      rw [HWE.out] at K
      have HK := hid K
      clear K
      obtain ⟨⟨a0, a1, a2, a3⟩, ⟨x0, x1, x2, x3⟩, q0, q1, q2, q3⟩ := FC.out w16 h16
      go_wp2_with fail
      clear a0 a1 a2 a3 x0 x1 x2 x3 q0 q1 q2 q3
      refine (HK.out).mono ?_
      rintro e w17 ⟨rfl, h⟩
      have h17 := h16.trans h
      clear h
      clear HK
      obtain ⟨⟨a0, a1, a2, a3⟩, ⟨x0, x1, x2, x3⟩, q0, q1, q2, q3⟩ := FC.out w17 h17
      go_wp2
      go_quiet (fail)
      clear a0 a1 a2 a3 x0 x1 x2 x3 q0 q1 q2 q3
      generalize hwq : World.drewN w17 _ = w18
      have h18 : Ext Wn w18 := by rw [← hwq]; exact h17.drewN _
      clear hwq
      obtain ⟨⟨a0, a1, a2, a3⟩, ⟨x0, x1, x2, x3⟩, q0, q1, q2, q3⟩ := FC.out w18 h18
      go_wp2_with fail
      clear a0 a1 a2 a3 x0 x1 x2 x3 q0 q1 q2 q3
      refine (same_yes _ _ c w18 (HO.out w18 h18) (HV.out w18 h18) HSZ.out).mono ?_
      rintro e v1 ⟨rfl, h⟩
      have hh1 := h18.trans h
      clear h
      go_wp2_with fail
      refine (awake_any v1).mono ?_
      rintro e v2 ⟨rfl, h⟩
      go_wp2
      go_ret
      exact ⟨rfl, HXN.out.trans (hh1.trans h)⟩
    have H0 := hid hc0
    have hwi := (manyOK_parts (checkC_ok hc0).1).2.2.2
    have HWI : Hid (0 ≤ c.wi ∧ c.wi ≤ 6) := ⟨hwi.1, hwi.2.1⟩
    have hbt := belT_all c hc0
    clear hwi
    cases hcl : clashM (gapsM allT c)
    case true =>
      have HCL : Hid (clashR (belT (rl c.wi.toNat fun _ => true)) c = true) := by unfold Hid; rw [hbt, hcl]
      have HTC : Hid (toldC c = 7) := by unfold Hid; rw [told_is H0.out, hcl]; rfl
      have HLC : Hid (latestC c = 7) := latest_err HTC.out (by decide)
      clear hbt hcl
      have K := truth_any _ c w14 (HO.out w14 h14) HSZ.out
      rw [HTC.out] at K
      have HK := hid K
      clear K
      obtain ⟨⟨a0, a1, a2, a3⟩, ⟨x0, x1, x2, x3⟩, q0, q1, q2, q3⟩ := FC.out w14 h14
      go_wp2_with fail
      clear a0 a1 a2 a3 x0 x1 x2 x3 q0 q1 q2 q3
      refine (HK.out).mono ?_
      rintro e w15 ⟨r1, rfl, h, -, hr1⟩
      have h15 := h14.trans h
      clear h
      obtain rfl := hr1 (by decide)
      clear HK hr1
      have K := latest_any _ c w15 (HO.out w15 h15) HSZ.out
      rw [HLC.out] at K
      have HK := hid K
      clear K
      obtain ⟨⟨a0, a1, a2, a3⟩, ⟨x0, x1, x2, x3⟩, q0, q1, q2, q3⟩ := FC.out w15 h15
      go_wp2_with fail
      clear a0 a1 a2 a3 x0 x1 x2 x3 q0 q1 q2 q3
      refine (HK.out).mono ?_
      rintro e w16 ⟨r2, rfl, h, -, hr2⟩
      have h16 := h15.trans h
      clear h
      obtain rfl := hr2 (by decide)
      clear HK hr2
      have K := refcheck_any _ c w16 (HXX.out w16 h16) HSZ.out
      rw [H0.out] at K
      have HK := hid K
      clear K
      obtain ⟨⟨a0, a1, a2, a3⟩, ⟨x0, x1, x2, x3⟩, q0, q1, q2, q3⟩ := FC.out w16 h16
      go_wp2_with fail
      clear a0 a1 a2 a3 x0 x1 x2 x3 q0 q1 q2 q3
      refine (HK.out).mono ?_
      rintro e w17 ⟨rfl, h⟩
      have h17 := h16.trans h
      clear h
      clear HK
      obtain ⟨⟨a0, a1, a2, a3⟩, ⟨x0, x1, x2, x3⟩, q0, q1, q2, q3⟩ := FC.out w17 h17
      go_wp2
      clear a0 a1 a2 a3 x0 x1 x2 x3 q0 q1 q2 q3
      refine wp_region_shut Ext (fun w' => Ext w17 w') (fun | 5 => some (fun v w' => ∃ B, v = .slice (some ⟨B, 0, none⟩) c.wi.toNat c.wi.toNat ∧ Bools w' (some ⟨B, 0, none⟩) (rl c.wi.toNat fun _ => true)) | 6 => some (fun v _ => v = .bool true) | _ => none) (by kernel_rfl) (by kernel_rfl) (fun _ _ h k => h.trans k) ?hTtrueu1 (Ext.drew (Ext.refl w17)) ?_
      case hTtrueu1 =>
        intro i R hR
        match i, hR with
        | 5, hR => cases hR; exact fun _ _ _ ⟨B, e, h⟩ k => ⟨B, e, h.ext k⟩
        | 6, hR => cases hR; exact fun _ _ _ h _ => h
      refine wM_val ?uztrue_1_0 rfl rfl Ext.refl (fun w' hD => ?hztrue_1_0) (fun phztrue_1_0 => ?nztrue_1_0)
      case hztrue_1_0 =>
        obtain ⟨-, ⟨d0, d1, d2, d3⟩, -⟩ := FC.out _ (h17.trans hD.1)
        go_simp; rfl
      simp only [Act.put, List.setIfInBounds_toArray, List.set_cons_succ, List.set_cons_zero, Nat.reduceAdd]
      refine wM_val ?uztrue_1_1 rfl rfl Ext.refl (fun w' hD => ?hztrue_1_1) (fun phztrue_1_1 => ?nztrue_1_1)
      case hztrue_1_1 =>
        obtain ⟨-, ⟨d0, d1, d2, d3⟩, -⟩ := FC.out _ (h17.trans hD.1)
        go_simp; rfl
      simp only [Act.put, List.setIfInBounds_toArray, List.set_cons_succ, List.set_cons_zero, Nat.reduceAdd]
      refine wM_val ?uztrue_1_2 rfl rfl Ext.refl (fun w' hD => ?hztrue_1_2) (fun phztrue_1_2 => ?nztrue_1_2)
      case hztrue_1_2 =>
        obtain ⟨-, ⟨d0, d1, d2, d3⟩, -⟩ := FC.out _ (h17.trans hD.1)
        go_simp; rfl
      simp only [Act.put, List.setIfInBounds_toArray, List.set_cons_succ, List.set_cons_zero, Nat.reduceAdd]
      refine wM_val ?uztrue_1_3 rfl rfl Ext.refl (fun w' hD => ?hztrue_1_3) (fun phztrue_1_3 => ?nztrue_1_3)
      case hztrue_1_3 =>
        obtain ⟨-, ⟨d0, d1, d2, d3⟩, -⟩ := FC.out _ (h17.trans hD.1)
        go_simp; rfl
      simp only [Act.put, List.setIfInBounds_toArray, List.set_cons_succ, List.set_cons_zero, Nat.reduceAdd]
      refine wM_val ?uztrue_1_4 rfl rfl Ext.refl (fun w' hD => ?hztrue_1_4) (fun phztrue_1_4 => ?nztrue_1_4)
      case hztrue_1_4 =>
        obtain ⟨-, ⟨d0, d1, d2, d3⟩, -⟩ := FC.out _ (h17.trans hD.1)
        go_simp; rfl
      simp only [Act.put, List.setIfInBounds_toArray, List.set_cons_succ, List.set_cons_zero, Nat.reduceAdd]
      refine wM_op _ rfl rfl (opens_call ?fztrue_1_5 ?gztrue_1_5 (fun w' hD => ?hztrue_1_5) (fun w' hD => ?cztrue_1_5)) (fun v5 hv5 => ?nztrue_1_5)
      case hztrue_1_5 => go_simp; constructor <;> rfl
      case cztrue_1_5 =>
        refine (refevery_any _ c w' (HXX.out w' (h17.trans hD.1)) HWI.out.1 HWI.out.2).mono ?_
        rintro e w2 ⟨B, rfl, -, hB, hb⟩
        exact ⟨_, rfl, hb, B, rfl, hB.bools⟩
      obtain ⟨_, -, -, Be, rfl, -⟩ := hv5
      simp only [Act.put, List.setIfInBounds_toArray, List.set_cons_succ, List.set_cons_zero, Nat.reduceAdd]
      refine wM_op _ rfl rfl (opens_call ?fztrue_1_6 ?gztrue_1_6 (fun w' hD => ?hztrue_1_6) (fun w' hD => ?cztrue_1_6)) (fun v6 hv6 => ?nztrue_1_6)
      case hztrue_1_6 => go_simp; constructor <;> rfl
      case cztrue_1_6 =>
        obtain ⟨-, B9, e9, hB9⟩ := hD.get 5 (by first | kernel_rfl | simp [Region.binds])
        cases e9
        have K := refclash_any _ c (some ⟨Be, 0, none⟩) c.wi.toNat (rl c.wi.toNat fun _ => true) w' (HXX.out w' (h17.trans hD.1)) HSZ.out H0.out hB9 (rl_len _ _)
        rw [rl_len, HCL.out] at K
        refine K.mono ?_
        rintro e w2 ⟨rfl, hb⟩
        exact ⟨_, rfl, hb, rfl⟩
      obtain ⟨_, -, -, rfl⟩ := hv6
      simp only [Act.put, List.setIfInBounds_toArray, List.set_cons_succ, List.set_cons_zero, Nat.reduceAdd]
      refine wM_val ?uztrue_1_7 rfl rfl Ext.refl (fun w' hD => ?hztrue_1_7) (fun phztrue_1_7 => ?nztrue_1_7)
      case hztrue_1_7 =>
        obtain ⟨-, ⟨d0, d1, d2, d3⟩, -⟩ := FC.out _ (h17.trans hD.1)
        go_simp; rfl
      simp only [Act.put, List.setIfInBounds_toArray, List.set_cons_succ, List.set_cons_zero, Nat.reduceAdd]
      refine wM_nil ?_
      intro w18 hw18 hF9
      clear hF9
      have h18 := h17.trans hw18
      clear hw18
      obtain ⟨⟨a0, a1, a2, a3⟩, ⟨x0, x1, x2, x3⟩, q0, q1, q2, q3⟩ := FC.out w18 h18
      go_wp2_with fail
      clear a0 a1 a2 a3 x0 x1 x2 x3 q0 q1 q2 q3
      refine (same_yes _ _ c w18 (HO.out w18 h18) (HV.out w18 h18) HSZ.out).mono ?_
      rintro e v1 ⟨rfl, h⟩
      have hh1 := h18.trans h
      clear h
      go_wp2_with fail
      refine (awake_any v1).mono ?_
      rintro e v2 ⟨rfl, h⟩
      go_wp2
      go_ret
      exact ⟨rfl, HXN.out.trans (hh1.trans h)⟩
    have HCL : Hid (clashR (belT (rl c.wi.toNat fun _ => true)) c = false) := by unfold Hid; rw [hbt, hcl]
    have htc : toldC c = 0 := by rw [told_is H0.out, hcl]; rfl
    have HTC := hid htc
    have hev := checkC_ev H0.out
    obtain ⟨N, hN⟩ : ∃ N : Nat, c.ev.toNat = N := ⟨_, rfl⟩
    have HNN := hid hN
    have hN1 : (0 : Int) < (N : Int) := by omega
    have hN8 : N ≤ 8 := by omega
    have HEV0 : Hid (((0 : Nat) : Int) < c.ev) := by unfold Hid; omega
    have htm := truth_min htc
    have HTM := hid htm.1
    have HTB := hid htm.2
    have HT0 := hid (truth_ok htc).1
    have HTR : Hid (∀ x ∈ truthL c, -1000000 ≤ x ∧ x ≤ 1000000) := fun x hx => by have := (truth_ok HTC.out).2.1 x hx; omega
    have HTL : Hid ((truthL c).length = N) := by unfold Hid; rw [truthL_len, hN]
    have HTE : Hid (((truthL c).length : Int) = c.ev) := by unfold Hid; rw [truthL_len]; omega
    have HTS : Hid ((truthL c).length ≤ 9223372036854775807) := by unfold Hid; rw [truthL_len]; omega
    have hgb := gapsM_bel H0.out
    have HGB := hid hgb
    have hG2 : (gapsR (belT (rl c.wi.toNat fun _ => true)) c 0).2 = true := gapsR_all H0.out (by rw [hgb]; exact hcl) (by omega)
    obtain ⟨G, hG⟩ : ∃ G, gapsR (belT (rl c.wi.toNat fun _ => true)) c 0 = (G, true) := ⟨_, Prod.ext rfl hG2⟩
    have HG := hid hG
    have HLA : Hid ((∀ j, j < N → G.is j = true) → latestC c = 0 ∧ rl N G.sm = rowG (gapsM allT c) N) := fun hj => by
      have h := latest_ref HTC.out HGB.out (by rw [HG.out, HNN.out]; exact hj)
      rw [HG.out, HNN.out] at h
      exact h
    have HLB : Hid (∀ j, j < N → G.is j = false → latestC c = 6) := fun j hj hi => latest_none HTC.out HGB.out (by rw [HNN.out]; exact hj) (by rw [HG.out]; exact hi)
    clear hbt hcl htm hev hN hgb hG2 hG htc
    have K := truth_any _ c w14 (HO.out w14 h14) HSZ.out
    rw [HTC.out, HNN.out] at K
    have HK := hid K
    clear K
    obtain ⟨⟨a0, a1, a2, a3⟩, ⟨x0, x1, x2, x3⟩, q0, q1, q2, q3⟩ := FC.out w14 h14
    go_wp2_with fail
    clear a0 a1 a2 a3 x0 x1 x2 x3 q0 q1 q2 q3
    refine (HK.out).mono ?_
    rintro e w15 ⟨r1, rfl, h, hr1, -⟩
    have h15 := h14.trans h
    clear h
    obtain ⟨Bt, rfl, -, hIt⟩ := hr1 (by first | rfl | trivial)
    have HIT : Hid (∀ w', Ext w15 w' → Ints w' (some ⟨Bt, 0, none⟩) (truthL c) ∧ w'.cell? ⟨Bt, 0, none⟩ = some (.int .i64 0)) := fun w' h => ⟨hIt.ints.ext h, h.cell (hIt.at_ HT0.out)⟩
    have T15 : Ext w15 w15 := Ext.refl _
    clear HK hr1 hIt
    obtain ⟨LC, hLC⟩ : ∃ LC, latestC c = LC := ⟨_, rfl⟩
    have HLC := hid hLC
    clear hLC
    have K := latest_any _ c w15 (HO.out w15 h15) HSZ.out
    rw [HLC.out, HNN.out] at K
    have HK := hid K
    clear K
    obtain ⟨⟨a0, a1, a2, a3⟩, ⟨x0, x1, x2, x3⟩, q0, q1, q2, q3⟩ := FC.out w15 h15
    go_wp2_with fail
    clear a0 a1 a2 a3 x0 x1 x2 x3 q0 q1 q2 q3
    refine (HK.out).mono ?_
    rintro e w16 ⟨r2, rfl, h, hr2, hr3⟩
    have h16 := h15.trans h
    have T16 := T15.trans h
    clear h
    have HR2 : Hid (LC = 0 → ∃ A' c', r2 = .slice A' N c' ∧ ∀ w', Ext w16 w' → Ints w' A' (rowG (gapsM allT c) N)) := fun e => by
      obtain ⟨A', c', e1, e2⟩ := hr2 e
      exact ⟨A', c', e1, fun w' h => e2.ext h⟩
    have HR3 := hid hr3
    have S16 : Ext w16 w16 := Ext.refl _
    clear HK hr2 hr3
    have K := refcheck_any _ c w16 (HXX.out w16 h16) HSZ.out
    rw [H0.out] at K
    have HK := hid K
    clear K
    obtain ⟨⟨a0, a1, a2, a3⟩, ⟨x0, x1, x2, x3⟩, q0, q1, q2, q3⟩ := FC.out w16 h16
    go_wp2_with fail
    clear a0 a1 a2 a3 x0 x1 x2 x3 q0 q1 q2 q3
    refine (HK.out).mono ?_
    rintro e w17 ⟨rfl, h⟩
    have h17 := h16.trans h
    have T17 := T16.trans h
    have S17 := S16.trans h
    clear h
    clear HK
    obtain ⟨⟨a0, a1, a2, a3⟩, ⟨x0, x1, x2, x3⟩, q0, q1, q2, q3⟩ := FC.out w17 h17
    go_wp2
    clear a0 a1 a2 a3 x0 x1 x2 x3 q0 q1 q2 q3
    refine wp_region_shut Ext (fun w' => Ext w17 w') (fun | 5 => some (fun v w' => ∃ B, v = .slice (some ⟨B, 0, none⟩) c.wi.toNat c.wi.toNat ∧ Bools w' (some ⟨B, 0, none⟩) (rl c.wi.toNat fun _ => true)) | 6 => some (fun v _ => v = .bool false) | _ => none) (by kernel_rfl) (by kernel_rfl) (fun _ _ h k => h.trans k) ?hTfalseu2 (Ext.drew (Ext.refl w17)) ?_
    case hTfalseu2 =>
      intro i R hR
      match i, hR with
      | 5, hR => cases hR; exact fun _ _ _ ⟨B, e, h⟩ k => ⟨B, e, h.ext k⟩
      | 6, hR => cases hR; exact fun _ _ _ h _ => h
    refine wM_val ?uzfalse_2_0 rfl rfl Ext.refl (fun w' hD => ?hzfalse_2_0) (fun phzfalse_2_0 => ?nzfalse_2_0)
    case hzfalse_2_0 =>
      obtain ⟨-, ⟨d0, d1, d2, d3⟩, -⟩ := FC.out _ (h17.trans hD.1)
      go_simp; rfl
    simp only [Act.put, List.setIfInBounds_toArray, List.set_cons_succ, List.set_cons_zero, Nat.reduceAdd]
    refine wM_val ?uzfalse_2_1 rfl rfl Ext.refl (fun w' hD => ?hzfalse_2_1) (fun phzfalse_2_1 => ?nzfalse_2_1)
    case hzfalse_2_1 =>
      obtain ⟨-, ⟨d0, d1, d2, d3⟩, -⟩ := FC.out _ (h17.trans hD.1)
      go_simp; rfl
    simp only [Act.put, List.setIfInBounds_toArray, List.set_cons_succ, List.set_cons_zero, Nat.reduceAdd]
    refine wM_val ?uzfalse_2_2 rfl rfl Ext.refl (fun w' hD => ?hzfalse_2_2) (fun phzfalse_2_2 => ?nzfalse_2_2)
    case hzfalse_2_2 =>
      obtain ⟨-, ⟨d0, d1, d2, d3⟩, -⟩ := FC.out _ (h17.trans hD.1)
      go_simp; rfl
    simp only [Act.put, List.setIfInBounds_toArray, List.set_cons_succ, List.set_cons_zero, Nat.reduceAdd]
    refine wM_val ?uzfalse_2_3 rfl rfl Ext.refl (fun w' hD => ?hzfalse_2_3) (fun phzfalse_2_3 => ?nzfalse_2_3)
    case hzfalse_2_3 =>
      obtain ⟨-, ⟨d0, d1, d2, d3⟩, -⟩ := FC.out _ (h17.trans hD.1)
      go_simp; rfl
    simp only [Act.put, List.setIfInBounds_toArray, List.set_cons_succ, List.set_cons_zero, Nat.reduceAdd]
    refine wM_val ?uzfalse_2_4 rfl rfl Ext.refl (fun w' hD => ?hzfalse_2_4) (fun phzfalse_2_4 => ?nzfalse_2_4)
    case hzfalse_2_4 =>
      obtain ⟨-, ⟨d0, d1, d2, d3⟩, -⟩ := FC.out _ (h17.trans hD.1)
      go_simp; rfl
    simp only [Act.put, List.setIfInBounds_toArray, List.set_cons_succ, List.set_cons_zero, Nat.reduceAdd]
    refine wM_op _ rfl rfl (opens_call ?fzfalse_2_5 ?gzfalse_2_5 (fun w' hD => ?hzfalse_2_5) (fun w' hD => ?czfalse_2_5)) (fun v5 hv5 => ?nzfalse_2_5)
    case hzfalse_2_5 => go_simp; constructor <;> rfl
    case czfalse_2_5 =>
      refine (refevery_any _ c w' (HXX.out w' (h17.trans hD.1)) HWI.out.1 HWI.out.2).mono ?_
      rintro e w2 ⟨B, rfl, -, hB, hb⟩
      exact ⟨_, rfl, hb, B, rfl, hB.bools⟩
    obtain ⟨_, -, -, Be, rfl, -⟩ := hv5
    simp only [Act.put, List.setIfInBounds_toArray, List.set_cons_succ, List.set_cons_zero, Nat.reduceAdd]
    refine wM_op _ rfl rfl (opens_call ?fzfalse_2_6 ?gzfalse_2_6 (fun w' hD => ?hzfalse_2_6) (fun w' hD => ?czfalse_2_6)) (fun v6 hv6 => ?nzfalse_2_6)
    case hzfalse_2_6 => go_simp; constructor <;> rfl
    case czfalse_2_6 =>
      obtain ⟨-, B9, e9, hB9⟩ := hD.get 5 (by first | kernel_rfl | simp [Region.binds])
      cases e9
      have K := refclash_any _ c (some ⟨Be, 0, none⟩) c.wi.toNat (rl c.wi.toNat fun _ => true) w' (HXX.out w' (h17.trans hD.1)) HSZ.out H0.out hB9 (rl_len _ _)
      rw [rl_len, HCL.out] at K
      refine K.mono ?_
      rintro e w2 ⟨rfl, hb⟩
      exact ⟨_, rfl, hb, rfl⟩
    obtain ⟨_, -, -, rfl⟩ := hv6
    simp only [Act.put, List.setIfInBounds_toArray, List.set_cons_succ, List.set_cons_zero, Nat.reduceAdd]
    refine wM_val ?uzfalse_2_7 rfl rfl Ext.refl (fun w' hD => ?hzfalse_2_7) (fun phzfalse_2_7 => ?nzfalse_2_7)
    case hzfalse_2_7 =>
      obtain ⟨-, ⟨d0, d1, d2, d3⟩, -⟩ := FC.out _ (h17.trans hD.1)
      go_simp; rfl
    simp only [Act.put, List.setIfInBounds_toArray, List.set_cons_succ, List.set_cons_zero, Nat.reduceAdd]
    refine wM_nil ?_
    intro w18 hw18 hF9
    clear hF9
    have h18 := h17.trans hw18
    have T18 := T17.trans hw18
    have S18 := S17.trans hw18
    clear hw18
    have K := refminutes_any _ c (some ⟨Bt, 0, none⟩) N (truthL c) w18 (HXX.out w18 h18) HSZ.out (HIT.out w18 T18).1 HTS.out
    rw [HTM.out, HTL.out] at K
    have HK := hid K
    clear K
    obtain ⟨⟨a0, a1, a2, a3⟩, ⟨x0, x1, x2, x3⟩, q0, q1, q2, q3⟩ := FC.out w18 h18
    go_wp2_with fail
    clear a0 a1 a2 a3 x0 x1 x2 x3 q0 q1 q2 q3
    refine (HK.out).mono ?_
    rintro e w19 ⟨rfl, h⟩
    have h19 := h18.trans h
    have T19 := T18.trans h
    have S19 := S18.trans h
    clear h
    clear HK
    have K := refbroken_any _ c (some ⟨Bt, 0, none⟩) N (truthL c) w19 (HXX.out w19 h19) HSZ.out (HIT.out w19 T19).1 H0.out HTE.out HTR.out
    rw [HTB.out, HTL.out] at K
    simp only [List.length_nil] at K
    have HK := hid K
    clear K
    have ct := (HIT.out w19 T19).2
    obtain ⟨⟨a0, a1, a2, a3⟩, ⟨x0, x1, x2, x3⟩, q0, q1, q2, q3⟩ := FC.out w19 h19
    go_wp2_with fail
    clear a0 a1 a2 a3 x0 x1 x2 x3 q0 q1 q2 q3
    refine (HK.out).mono ?_
    rintro e w20 ⟨A14, k14, rfl, -, h⟩
    have h20 := h19.trans h
    have T20 := T19.trans h
    have S20 := S19.trans h
    clear h
    clear HK ct
    obtain ⟨⟨a0, a1, a2, a3⟩, ⟨x0, x1, x2, x3⟩, q0, q1, q2, q3⟩ := FC.out w20 h20
    go_wp2
    clear a0 a1 a2 a3 x0 x1 x2 x3 q0 q1 q2 q3
    refine wp_region_shut Ext (fun w' => Ext w20 w') (fun | 2 => some (fun v w' => ∃ B, v = .slice (some ⟨B, 0, none⟩) c.wi.toNat c.wi.toNat ∧ Bools w' (some ⟨B, 0, none⟩) (rl c.wi.toNat fun _ => true)) | 3 => some (fun v w' => ∃ g1 g2, v = .tuple #[.slice (some ⟨g1, 0, none⟩) N N, .slice (some ⟨g2, 0, none⟩) N N, .bool true] ∧ RV w' g1 N (fun j => .int .i64 (G.sm j)) ∧ RV w' g2 N (fun j => .bool (G.is j))) | _ => none) (by kernel_rfl) (by kernel_rfl) (fun _ _ h k => h.trans k) ?hG3 (Ext.drew (Ext.refl w20)) ?_
    case hG3 =>
      intro i R hR
      match i, hR with
      | 2, hR => cases hR; exact fun _ _ _ ⟨B, e, h⟩ k => ⟨B, e, h.ext k⟩
      | 3, hR => cases hR; exact fun _ _ _ ⟨g1, g2, e, h1, h2⟩ k => ⟨g1, g2, e, h1.ext k, h2.ext k⟩
    refine wM_val ?ug3_0 rfl rfl Ext.refl (fun w' hD => ?hg3_0) (fun phg3_0 => ?ng3_0)
    case hg3_0 =>
      obtain ⟨-, ⟨d0, d1, d2, d3⟩, -⟩ := FC.out _ (h20.trans hD.1)
      go_simp; rfl
    simp only [Act.put, List.setIfInBounds_toArray, List.set_cons_succ, List.set_cons_zero, Nat.reduceAdd]
    refine wM_val ?ug3_1 rfl rfl Ext.refl (fun w' hD => ?hg3_1) (fun phg3_1 => ?ng3_1)
    case hg3_1 =>
      obtain ⟨-, ⟨d0, d1, d2, d3⟩, -⟩ := FC.out _ (h20.trans hD.1)
      go_simp; rfl
    simp only [Act.put, List.setIfInBounds_toArray, List.set_cons_succ, List.set_cons_zero, Nat.reduceAdd]
    refine wM_op _ rfl rfl (opens_call ?fg3_2 ?gg3_2 (fun w' hD => ?hg3_2) (fun w' hD => ?cg3_2)) (fun v2 hv2 => ?ng3_2)
    case hg3_2 => go_simp; constructor <;> rfl
    case cg3_2 =>
      refine (refevery_any _ c w' (HXX.out w' (h20.trans hD.1)) HWI.out.1 HWI.out.2).mono ?_
      rintro e w2 ⟨B, rfl, -, hB, hb⟩
      exact ⟨_, rfl, hb, B, rfl, hB.bools⟩
    obtain ⟨_, -, -, Be2, rfl, -⟩ := hv2
    simp only [Act.put, List.setIfInBounds_toArray, List.set_cons_succ, List.set_cons_zero, Nat.reduceAdd]
    refine wM_op _ rfl rfl (opens_call ?fg3_3 ?gg3_3 (fun w' hD => ?hg3_3) (fun w' hD => ?cg3_3)) (fun v3 hv3 => ?ng3_3)
    case hg3_3 => go_simp; constructor <;> rfl
    case cg3_3 =>
      obtain ⟨-, B9, e9, hB9⟩ := hD.get 2 (by first | kernel_rfl | simp [Region.binds])
      cases e9
      have K := refgaps_any _ c (some ⟨Be2, 0, none⟩) c.wi.toNat (rl c.wi.toNat fun _ => true) 0 w' (HXX.out w' (h20.trans hD.1)) HSZ.out H0.out hB9 (rl_len _ _) HEV0.out
      rw [rl_len, HG.out, HNN.out] at K
      refine K.mono ?_
      rintro e w2 ⟨g1, g2, rfl, hI, hJ, hb, -, -⟩
      exact ⟨_, rfl, hb, g1, g2, rfl, hI, hJ⟩
    obtain ⟨_, -, -, g1, g2, rfl, -⟩ := hv3
    simp only [Act.put, List.setIfInBounds_toArray, List.set_cons_succ, List.set_cons_zero, Nat.reduceAdd]
    refine wM_val ?ug3_4 rfl rfl Ext.refl (fun w' hD => ?hg3_4) (fun phg3_4 => ?ng3_4)
    case hg3_4 =>
      obtain ⟨-, ⟨d0, d1, d2, d3⟩, -⟩ := FC.out _ (h20.trans hD.1)
      go_simp; rfl
    simp only [Act.put, List.setIfInBounds_toArray, List.set_cons_succ, List.set_cons_zero, Nat.reduceAdd]
    refine wM_val ?ug3_5 rfl rfl Ext.refl (fun w' hD => ?hg3_5) (fun phg3_5 => ?ng3_5)
    case hg3_5 =>
      obtain ⟨-, ⟨d0, d1, d2, d3⟩, -⟩ := FC.out _ (h20.trans hD.1)
      go_simp; rfl
    simp only [Act.put, List.setIfInBounds_toArray, List.set_cons_succ, List.set_cons_zero, Nat.reduceAdd]
    refine wM_val ?ug3_6 rfl rfl Ext.refl (fun w' hD => ?hg3_6) (fun phg3_6 => ?ng3_6)
    case hg3_6 =>
      obtain ⟨-, ⟨d0, d1, d2, d3⟩, -⟩ := FC.out _ (h20.trans hD.1)
      go_simp; rfl
    simp only [Act.put, List.setIfInBounds_toArray, List.set_cons_succ, List.set_cons_zero, Nat.reduceAdd]
    refine wM_val ?ug3_7 rfl rfl Ext.refl (fun w' hD => ?hg3_7) (fun phg3_7 => ?ng3_7)
    case hg3_7 =>
      obtain ⟨-, ⟨d0, d1, d2, d3⟩, -⟩ := FC.out _ (h20.trans hD.1)
      go_simp; rfl
    simp only [Act.put, List.setIfInBounds_toArray, List.set_cons_succ, List.set_cons_zero, Nat.reduceAdd]
    refine wM_val ?ug3_8 rfl rfl Ext.refl (fun w' hD => ?hg3_8) (fun phg3_8 => ?ng3_8)
    case hg3_8 =>
      obtain ⟨-, ⟨d0, d1, d2, d3⟩, -⟩ := FC.out _ (h20.trans hD.1)
      go_simp; rfl
    simp only [Act.put, List.setIfInBounds_toArray, List.set_cons_succ, List.set_cons_zero, Nat.reduceAdd]
    refine wM_val ?ug3_9 rfl rfl Ext.refl (fun w' hD => ?hg3_9) (fun phg3_9 => ?ng3_9)
    case hg3_9 =>
      obtain ⟨-, ⟨d0, d1, d2, d3⟩, -⟩ := FC.out _ (h20.trans hD.1)
      go_simp; rfl
    simp only [Act.put, List.setIfInBounds_toArray, List.set_cons_succ, List.set_cons_zero, Nat.reduceAdd]
    refine wM_val ?ug3_10 rfl rfl Ext.refl (fun w' hD => ?hg3_10) (fun phg3_10 => ?ng3_10)
    case hg3_10 =>
      obtain ⟨-, ⟨d0, d1, d2, d3⟩, -⟩ := FC.out _ (h20.trans hD.1)
      go_simp; rfl
    simp only [Act.put, List.setIfInBounds_toArray, List.set_cons_succ, List.set_cons_zero, Nat.reduceAdd]
    refine wM_nil ?_
    intro w21 hw21 hF9
    obtain ⟨-, g1', g2', e3, hI, hJ⟩ := hF9 3
    cases e3
    clear hF9
    have h21 := h20.trans hw21
    have T21 := T20.trans hw21
    have S21 := S20.trans hw21
    clear hw21
    have HGI : Hid (∀ w', Ext w21 w' → Ints w' (some ⟨g1, 0, none⟩) (rl N G.sm)) := fun w' h => hI.ints.ext h
    have HGJ : Hid (∀ w', Ext w21 w' → RV w' g2 N (fun j => .bool (G.is j))) := fun w' h => hJ.ext h
    have U21 : Ext w21 w21 := Ext.refl _
    clear hI hJ
    go_wp2
    go_loopw [8, 18, 22, 171] (fun s8 s18 _ i wr => ∃ kk : Nat, kk ≤ N ∧ i = .int .i64 (kk : Int) ∧ wr = w21 ∧ ((s8 = .int .i64 0 ∧ s18 = .slice (some ⟨g1, 0, none⟩) N N ∧ Hid (∀ j, j < kk → G.is j = true)) ∨ (s8 = .int .i64 6 ∧ s18 = .slice none 0 0 ∧ Hid (∃ j, j < N ∧ G.is j = false)))) (fun _ _ _ i _ => N - (intOf i).toNat)
    case atStart => exact ⟨0, Nat.zero_le _, rfl, rfl, .inl ⟨rfl, rfl, fun j hj => absurd hj (by omega)⟩⟩
    case round =>
      obtain ⟨kk, hk, rfl, hwr, hst⟩ := hrel
      by_cases hlt : kk < N
      · have hlt' : (kk : Int) < (N : Int) := by omega
        have cj : w21.cell? ⟨g2, kk, none⟩ = some (.bool (G.is kk)) := ((HGJ.out w21 (Ext.refl _)) kk hlt).1
        rcases hst with ⟨rfl, rfl, HQ⟩ | ⟨rfl, rfl, HQ⟩
        · cases hq : G.is kk
          · rw [hq] at cj
            have HQ2 : Hid (∃ j, j < N ∧ G.is j = false) := ⟨kk, hlt, hq⟩
            clear HQ
            go_wp2
            go_roundw
            case rel => exact ⟨kk + 1, by omega, by go_num, (by first | exact hwr | trivial), .inr ⟨rfl, rfl, HQ2⟩⟩
            case measure => simp [intOf]; omega
          · rw [hq] at cj
            have HQ2 : Hid (∀ j, j < kk + 1 → G.is j = true) := fun j hj => by
              by_cases e : j = kk
              · rw [e]; exact hq
              · exact HQ.out j (by omega)
            clear HQ
            go_wp2
            go_roundw
            case rel => exact ⟨kk + 1, by omega, by go_num, (by first | exact hwr | trivial), .inl ⟨rfl, rfl, HQ2⟩⟩
            case measure => simp [intOf]; omega
        · cases hq : G.is kk
          all_goals
            rw [hq] at cj
            clear hq
            go_wp2
            go_roundw
            case rel => exact ⟨kk + 1, by omega, by go_num, (by first | exact hwr | trivial), .inr ⟨rfl, rfl, HQ⟩⟩
            case measure => simp [intOf]; omega
      · have hlt' : ¬ (kk : Int) < (N : Int) := by omega
        subst hwr
        rcases hst with ⟨rfl, rfl, HQ⟩ | ⟨rfl, rfl, HQ⟩
        · have hLA := HLA.out (fun j hj => HQ.out j (by omega))
          obtain rfl : LC = 0 := HLC.out.symm.trans hLA.1
          obtain ⟨A15, k15, rfl, hI15⟩ := HR2.out rfl
          have HRL := hid hLA.2
          have HI15 := hid hI15
          clear hLA hI15 HR2 HR3 HQ
          have K := eq_int A15 (some ⟨g1, 0, none⟩) k15 N (rowG (gapsM allT c) N) (rl N G.sm) wr (HI15.out wr S21) (HGI.out wr (Ext.refl _)) (by rw [rowG_len]; omega) (by rw [rl_len]; omega)
          rw [HRL.out, beq_self_eq_true, rowG_len] at K
          have HK := hid K
          clear K
          obtain ⟨⟨a0, a1, a2, a3⟩, ⟨x0, x1, x2, x3⟩, q0, q1, q2, q3⟩ := FC.out wr h21
          go_wp2_with fail
          clear a0 a1 a2 a3 x0 x1 x2 x3 q0 q1 q2 q3
          refine HK.out.mono ?_
          rintro e w22 ⟨rfl, h⟩
          have h22 := h21.trans h
          clear h HK
          obtain ⟨⟨a0, a1, a2, a3⟩, ⟨x0, x1, x2, x3⟩, q0, q1, q2, q3⟩ := FC.out w22 h22
          go_wp2_with fail
          clear a0 a1 a2 a3 x0 x1 x2 x3 q0 q1 q2 q3
          refine (same_yes _ _ c w22 (HO.out w22 h22) (HV.out w22 h22) HSZ.out).mono ?_
          rintro e v1 ⟨rfl, h⟩
          have hh1 := h22.trans h
          clear h
          go_wp2_with fail
          refine (awake_any v1).mono ?_
          rintro e v2 ⟨rfl, h⟩
          go_wp2
          go_ret
          exact ⟨rfl, HXN.out.trans (hh1.trans h)⟩
        · obtain ⟨j, hj, hi⟩ := HQ.out
          obtain rfl : LC = 6 := HLC.out.symm.trans (HLB.out j hj hi)
          obtain rfl := HR3.out (by decide)
          clear HR2 HR3 HQ
          have K := eq_int none none 0 0 [] [] wr (Ints.nil _ _) (Ints.nil _ _) (by decide) (by decide)
          rw [beq_self_eq_true] at K
          simp only [List.length_nil] at K
          have HK := hid K
          clear K
          obtain ⟨⟨a0, a1, a2, a3⟩, ⟨x0, x1, x2, x3⟩, q0, q1, q2, q3⟩ := FC.out wr h21
          go_wp2_with fail
          clear a0 a1 a2 a3 x0 x1 x2 x3 q0 q1 q2 q3
          refine HK.out.mono ?_
          rintro e w22 ⟨rfl, h⟩
          have h22 := h21.trans h
          clear h HK
          obtain ⟨⟨a0, a1, a2, a3⟩, ⟨x0, x1, x2, x3⟩, q0, q1, q2, q3⟩ := FC.out w22 h22
          go_wp2_with fail
          clear a0 a1 a2 a3 x0 x1 x2 x3 q0 q1 q2 q3
          refine (same_yes _ _ c w22 (HO.out w22 h22) (HV.out w22 h22) HSZ.out).mono ?_
          rintro e v1 ⟨rfl, h⟩
          have hh1 := h22.trans h
          clear h
          go_wp2_with fail
          refine (awake_any v1).mono ?_
          rintro e v2 ⟨rfl, h⟩
          go_wp2
          go_ret
          exact ⟨rfl, HXN.out.trans (hh1.trans h)⟩
  subst hM0
  have hmo := minutesC_ok HM.out
  have hc0 := hmo.1
  have HC0 := hid hc0
  have HLE := hid hmo.2.1
  have HRR : Hid (∀ x ∈ row, -1000000 ≤ x ∧ x ≤ 1000000) := fun x hx => by have := (minutesC_ok HM.out).2.2 x hx; omega
  obtain ⟨z, hz, hbz, hhz⟩ := min_facts HM.out
  have HBZ := hid hbz
  have HHZ := hid hhz
  have hev := checkC_ev hc0
  have h52 := checkC_52 hc0
  have hbl2 := brk_len row (numFrom 0 c.all)
  rw [numFrom_length] at hbl2
  have HBL : Hid ((brkC c row).length ≤ 9223372036854775807) := by unfold Hid brkC; omega
  have hlz : (0 : Int) < (row.length : Int) := by omega
  obtain ⟨bz, oz, rfl, cz⟩ := (HA'.out Wn (Ext.refl _)).at_ hz
  rw [Nat.add_zero] at cz
  have HCZ : Hid (∀ w', Ext Wn w' → w'.cell? ⟨bz, oz, none⟩ = some (.int .i64 z)) := fun w' h => h.cell cz
  clear hmo hz hbz hhz hev h52 hbl2 cz hc0
  have K := refbroken_any _ c (some ⟨bz, oz, none⟩) k row w10 (HXX.out w10 h10) HSZ.out (HA'.out w10 h10) HC0.out HLE.out HRR.out
  have HK := hid K
  clear K
  obtain ⟨⟨a0, a1, a2, a3⟩, ⟨x0, x1, x2, x3⟩, q0, q1, q2, q3⟩ := FC.out w10 h10
  go_wp2_with fail
  clear a0 a1 a2 a3 x0 x1 x2 x3 q0 q1 q2 q3
  refine (HK.out).mono ?_
  rintro e w11 ⟨A9, k9, rfl, hI9, h⟩
  have h11 := h10.trans h
  clear h
  clear HK
  have HI9 : Hid (∀ w', Ext w11 w' → Ints w' A9 (brkC c row)) := fun w' h => hI9.ext h
  have X11 : Ext w11 w11 := Ext.refl _
  clear hI9
  have cz := HCZ.out w11 h11
  by_cases hz0 : z = 0
  case neg =>
    have b2 : (z != 0) = true := by simpa using hz0
    have hbz := HBZ.out
    rw [if_neg hz0] at hbz
    have HBE := hid hbz
    have hhz := HHZ.out
    rw [decide_eq_false hz0, Bool.false_and] at hhz
    have HHE := hid hhz
    clear hbz hhz HBZ HHZ
    have K := holdsw_any _ c (some ⟨gd, 0, none⟩) kd row w11 (HO.out w11 h11) HSZ.out (HD.out w11 h11) HLL.out
    rw [HM.out, HHE.out] at K
    have HK := hid K
    clear K
    obtain ⟨⟨a0, a1, a2, a3⟩, ⟨x0, x1, x2, x3⟩, q0, q1, q2, q3⟩ := FC.out w11 h11
    go_wp2_with fail
    clear a0 a1 a2 a3 x0 x1 x2 x3 q0 q1 q2 q3
    refine (HK.out).mono ?_
    rintro e w12 ⟨rfl, h⟩
    have h12 := h11.trans h
    clear h
    clear HK
    clear cz
    have K := brokenw_any _ c (some ⟨gd, 0, none⟩) kd row w12 (HO.out w12 h12) HSZ.out (HD.out w12 h12) HLL.out
    rw [HBE.out] at K
    have HK := hid K
    clear K
    obtain ⟨⟨a0, a1, a2, a3⟩, ⟨x0, x1, x2, x3⟩, q0, q1, q2, q3⟩ := FC.out w12 h12
    go_wp2_with fail
    clear a0 a1 a2 a3 x0 x1 x2 x3 q0 q1 q2 q3
    refine (HK.out).mono ?_
    rintro e w13 ⟨r9, rfl, h, hr9, -⟩
    have h13 := h12.trans h
    clear h
    clear HK
    obtain rfl := hr9 (by decide)
    clear hr9
    have K := eq_int none none 0 0 [] [] w13 (Ints.nil _ _) (Ints.nil _ _) (by decide) (by decide)
    rw [beq_self_eq_true] at K
    simp only [List.length_nil] at K
    have HK := hid K
    clear K
    obtain ⟨⟨a0, a1, a2, a3⟩, ⟨x0, x1, x2, x3⟩, q0, q1, q2, q3⟩ := FC.out w13 h13
    go_wp2_with fail
    clear a0 a1 a2 a3 x0 x1 x2 x3 q0 q1 q2 q3
    refine (HK.out).mono ?_
    rintro e w14 ⟨rfl, h⟩
    have h14 := h13.trans h
    clear h
    clear HK
    have K := eq_int (some ⟨gd, 0, none⟩) (some ⟨bz, oz, none⟩) kd k row row w14 (HD.out w14 h14) (HA'.out w14 h14) HLL.out HLL.out
    rw [beq_self_eq_true] at K
    have HK := hid K
    clear K
    obtain ⟨⟨a0, a1, a2, a3⟩, ⟨x0, x1, x2, x3⟩, q0, q1, q2, q3⟩ := FC.out w14 h14
    go_wp2_with fail
    clear a0 a1 a2 a3 x0 x1 x2 x3 q0 q1 q2 q3
    refine (HK.out).mono ?_
    rintro e w15 ⟨rfl, h⟩
    have h15 := h14.trans h
    clear h
    clear HK
    have hc0 := HC0.out
    have H0 := hid hc0
    have hwi := (manyOK_parts (checkC_ok hc0).1).2.2.2
    have HWI : Hid (0 ≤ c.wi ∧ c.wi ≤ 6) := ⟨hwi.1, hwi.2.1⟩
    have hbt := belT_all c hc0
    clear hwi
    cases hcl : clashM (gapsM allT c)
    case true =>
      have HCL : Hid (clashR (belT (rl c.wi.toNat fun _ => true)) c = true) := by unfold Hid; rw [hbt, hcl]
      have HTC : Hid (toldC c = 7) := by unfold Hid; rw [told_is H0.out, hcl]; rfl
      have HLC : Hid (latestC c = 7) := latest_err HTC.out (by decide)
      clear hbt hcl
      have K := truth_any _ c w15 (HO.out w15 h15) HSZ.out
      rw [HTC.out] at K
      have HK := hid K
      clear K
      obtain ⟨⟨a0, a1, a2, a3⟩, ⟨x0, x1, x2, x3⟩, q0, q1, q2, q3⟩ := FC.out w15 h15
      go_wp2_with fail
      clear a0 a1 a2 a3 x0 x1 x2 x3 q0 q1 q2 q3
      refine (HK.out).mono ?_
      rintro e w16 ⟨r1, rfl, h, -, hr1⟩
      have h16 := h15.trans h
      clear h
      obtain rfl := hr1 (by decide)
      clear HK hr1
      have K := latest_any _ c w16 (HO.out w16 h16) HSZ.out
      rw [HLC.out] at K
      have HK := hid K
      clear K
      obtain ⟨⟨a0, a1, a2, a3⟩, ⟨x0, x1, x2, x3⟩, q0, q1, q2, q3⟩ := FC.out w16 h16
      go_wp2_with fail
      clear a0 a1 a2 a3 x0 x1 x2 x3 q0 q1 q2 q3
      refine (HK.out).mono ?_
      rintro e w17 ⟨r2, rfl, h, -, hr2⟩
      have h17 := h16.trans h
      clear h
      obtain rfl := hr2 (by decide)
      clear HK hr2
      have K := refcheck_any _ c w17 (HXX.out w17 h17) HSZ.out
      rw [H0.out] at K
      have HK := hid K
      clear K
      obtain ⟨⟨a0, a1, a2, a3⟩, ⟨x0, x1, x2, x3⟩, q0, q1, q2, q3⟩ := FC.out w17 h17
      go_wp2_with fail
      clear a0 a1 a2 a3 x0 x1 x2 x3 q0 q1 q2 q3
      refine (HK.out).mono ?_
      rintro e w18 ⟨rfl, h⟩
      have h18 := h17.trans h
      clear h
      clear HK
      obtain ⟨⟨a0, a1, a2, a3⟩, ⟨x0, x1, x2, x3⟩, q0, q1, q2, q3⟩ := FC.out w18 h18
      go_wp2
      clear a0 a1 a2 a3 x0 x1 x2 x3 q0 q1 q2 q3
      refine wp_region_shut Ext (fun w' => Ext w18 w') (fun | 5 => some (fun v w' => ∃ B, v = .slice (some ⟨B, 0, none⟩) c.wi.toNat c.wi.toNat ∧ Bools w' (some ⟨B, 0, none⟩) (rl c.wi.toNat fun _ => true)) | 6 => some (fun v _ => v = .bool true) | _ => none) (by kernel_rfl) (by kernel_rfl) (fun _ _ h k => h.trans k) ?hTtrueu4 (Ext.drew (Ext.refl w18)) ?_
      case hTtrueu4 =>
        intro i R hR
        match i, hR with
        | 5, hR => cases hR; exact fun _ _ _ ⟨B, e, h⟩ k => ⟨B, e, h.ext k⟩
        | 6, hR => cases hR; exact fun _ _ _ h _ => h
      refine wM_val ?uztrue_4_0 rfl rfl Ext.refl (fun w' hD => ?hztrue_4_0) (fun phztrue_4_0 => ?nztrue_4_0)
      case hztrue_4_0 =>
        obtain ⟨-, ⟨d0, d1, d2, d3⟩, -⟩ := FC.out _ (h18.trans hD.1)
        go_simp; rfl
      simp only [Act.put, List.setIfInBounds_toArray, List.set_cons_succ, List.set_cons_zero, Nat.reduceAdd]
      refine wM_val ?uztrue_4_1 rfl rfl Ext.refl (fun w' hD => ?hztrue_4_1) (fun phztrue_4_1 => ?nztrue_4_1)
      case hztrue_4_1 =>
        obtain ⟨-, ⟨d0, d1, d2, d3⟩, -⟩ := FC.out _ (h18.trans hD.1)
        go_simp; rfl
      simp only [Act.put, List.setIfInBounds_toArray, List.set_cons_succ, List.set_cons_zero, Nat.reduceAdd]
      refine wM_val ?uztrue_4_2 rfl rfl Ext.refl (fun w' hD => ?hztrue_4_2) (fun phztrue_4_2 => ?nztrue_4_2)
      case hztrue_4_2 =>
        obtain ⟨-, ⟨d0, d1, d2, d3⟩, -⟩ := FC.out _ (h18.trans hD.1)
        go_simp; rfl
      simp only [Act.put, List.setIfInBounds_toArray, List.set_cons_succ, List.set_cons_zero, Nat.reduceAdd]
      refine wM_val ?uztrue_4_3 rfl rfl Ext.refl (fun w' hD => ?hztrue_4_3) (fun phztrue_4_3 => ?nztrue_4_3)
      case hztrue_4_3 =>
        obtain ⟨-, ⟨d0, d1, d2, d3⟩, -⟩ := FC.out _ (h18.trans hD.1)
        go_simp; rfl
      simp only [Act.put, List.setIfInBounds_toArray, List.set_cons_succ, List.set_cons_zero, Nat.reduceAdd]
      refine wM_val ?uztrue_4_4 rfl rfl Ext.refl (fun w' hD => ?hztrue_4_4) (fun phztrue_4_4 => ?nztrue_4_4)
      case hztrue_4_4 =>
        obtain ⟨-, ⟨d0, d1, d2, d3⟩, -⟩ := FC.out _ (h18.trans hD.1)
        go_simp; rfl
      simp only [Act.put, List.setIfInBounds_toArray, List.set_cons_succ, List.set_cons_zero, Nat.reduceAdd]
      refine wM_op _ rfl rfl (opens_call ?fztrue_4_5 ?gztrue_4_5 (fun w' hD => ?hztrue_4_5) (fun w' hD => ?cztrue_4_5)) (fun v5 hv5 => ?nztrue_4_5)
      case hztrue_4_5 => go_simp; constructor <;> rfl
      case cztrue_4_5 =>
        refine (refevery_any _ c w' (HXX.out w' (h18.trans hD.1)) HWI.out.1 HWI.out.2).mono ?_
        rintro e w2 ⟨B, rfl, -, hB, hb⟩
        exact ⟨_, rfl, hb, B, rfl, hB.bools⟩
      obtain ⟨_, -, -, Be, rfl, -⟩ := hv5
      simp only [Act.put, List.setIfInBounds_toArray, List.set_cons_succ, List.set_cons_zero, Nat.reduceAdd]
      refine wM_op _ rfl rfl (opens_call ?fztrue_4_6 ?gztrue_4_6 (fun w' hD => ?hztrue_4_6) (fun w' hD => ?cztrue_4_6)) (fun v6 hv6 => ?nztrue_4_6)
      case hztrue_4_6 => go_simp; constructor <;> rfl
      case cztrue_4_6 =>
        obtain ⟨-, B9, e9, hB9⟩ := hD.get 5 (by first | kernel_rfl | simp [Region.binds])
        cases e9
        have K := refclash_any _ c (some ⟨Be, 0, none⟩) c.wi.toNat (rl c.wi.toNat fun _ => true) w' (HXX.out w' (h18.trans hD.1)) HSZ.out H0.out hB9 (rl_len _ _)
        rw [rl_len, HCL.out] at K
        refine K.mono ?_
        rintro e w2 ⟨rfl, hb⟩
        exact ⟨_, rfl, hb, rfl⟩
      obtain ⟨_, -, -, rfl⟩ := hv6
      simp only [Act.put, List.setIfInBounds_toArray, List.set_cons_succ, List.set_cons_zero, Nat.reduceAdd]
      refine wM_val ?uztrue_4_7 rfl rfl Ext.refl (fun w' hD => ?hztrue_4_7) (fun phztrue_4_7 => ?nztrue_4_7)
      case hztrue_4_7 =>
        obtain ⟨-, ⟨d0, d1, d2, d3⟩, -⟩ := FC.out _ (h18.trans hD.1)
        go_simp; rfl
      simp only [Act.put, List.setIfInBounds_toArray, List.set_cons_succ, List.set_cons_zero, Nat.reduceAdd]
      refine wM_nil ?_
      intro w19 hw19 hF9
      clear hF9
      have h19 := h18.trans hw19
      clear hw19
      obtain ⟨⟨a0, a1, a2, a3⟩, ⟨x0, x1, x2, x3⟩, q0, q1, q2, q3⟩ := FC.out w19 h19
      go_wp2_with fail
      clear a0 a1 a2 a3 x0 x1 x2 x3 q0 q1 q2 q3
      refine (same_yes _ _ c w19 (HO.out w19 h19) (HV.out w19 h19) HSZ.out).mono ?_
      rintro e v1 ⟨rfl, h⟩
      have hh1 := h19.trans h
      clear h
      go_wp2_with fail
      refine (awake_any v1).mono ?_
      rintro e v2 ⟨rfl, h⟩
      go_wp2
      go_ret
      exact ⟨rfl, HXN.out.trans (hh1.trans h)⟩
    have HCL : Hid (clashR (belT (rl c.wi.toNat fun _ => true)) c = false) := by unfold Hid; rw [hbt, hcl]
    have htc : toldC c = 0 := by rw [told_is H0.out, hcl]; rfl
    have HTC := hid htc
    have hev := checkC_ev H0.out
    obtain ⟨N, hN⟩ : ∃ N : Nat, c.ev.toNat = N := ⟨_, rfl⟩
    have HNN := hid hN
    have hN1 : (0 : Int) < (N : Int) := by omega
    have hN8 : N ≤ 8 := by omega
    have HEV0 : Hid (((0 : Nat) : Int) < c.ev) := by unfold Hid; omega
    have htm := truth_min htc
    have HTM := hid htm.1
    have HTB := hid htm.2
    have HT0 := hid (truth_ok htc).1
    have HTR : Hid (∀ x ∈ truthL c, -1000000 ≤ x ∧ x ≤ 1000000) := fun x hx => by have := (truth_ok HTC.out).2.1 x hx; omega
    have HTL : Hid ((truthL c).length = N) := by unfold Hid; rw [truthL_len, hN]
    have HTE : Hid (((truthL c).length : Int) = c.ev) := by unfold Hid; rw [truthL_len]; omega
    have HTS : Hid ((truthL c).length ≤ 9223372036854775807) := by unfold Hid; rw [truthL_len]; omega
    have hgb := gapsM_bel H0.out
    have HGB := hid hgb
    have hG2 : (gapsR (belT (rl c.wi.toNat fun _ => true)) c 0).2 = true := gapsR_all H0.out (by rw [hgb]; exact hcl) (by omega)
    obtain ⟨G, hG⟩ : ∃ G, gapsR (belT (rl c.wi.toNat fun _ => true)) c 0 = (G, true) := ⟨_, Prod.ext rfl hG2⟩
    have HG := hid hG
    have HLA : Hid ((∀ j, j < N → G.is j = true) → latestC c = 0 ∧ rl N G.sm = rowG (gapsM allT c) N) := fun hj => by
      have h := latest_ref HTC.out HGB.out (by rw [HG.out, HNN.out]; exact hj)
      rw [HG.out, HNN.out] at h
      exact h
    have HLB : Hid (∀ j, j < N → G.is j = false → latestC c = 6) := fun j hj hi => latest_none HTC.out HGB.out (by rw [HNN.out]; exact hj) (by rw [HG.out]; exact hi)
    clear hbt hcl htm hev hN hgb hG2 hG htc
    have K := truth_any _ c w15 (HO.out w15 h15) HSZ.out
    rw [HTC.out, HNN.out] at K
    have HK := hid K
    clear K
    obtain ⟨⟨a0, a1, a2, a3⟩, ⟨x0, x1, x2, x3⟩, q0, q1, q2, q3⟩ := FC.out w15 h15
    go_wp2_with fail
    clear a0 a1 a2 a3 x0 x1 x2 x3 q0 q1 q2 q3
    refine (HK.out).mono ?_
    rintro e w16 ⟨r1, rfl, h, hr1, -⟩
    have h16 := h15.trans h
    clear h
    obtain ⟨Bt, rfl, -, hIt⟩ := hr1 (by first | rfl | trivial)
    have HIT : Hid (∀ w', Ext w16 w' → Ints w' (some ⟨Bt, 0, none⟩) (truthL c) ∧ w'.cell? ⟨Bt, 0, none⟩ = some (.int .i64 0)) := fun w' h => ⟨hIt.ints.ext h, h.cell (hIt.at_ HT0.out)⟩
    have T16 : Ext w16 w16 := Ext.refl _
    clear HK hr1 hIt
    obtain ⟨LC, hLC⟩ : ∃ LC, latestC c = LC := ⟨_, rfl⟩
    have HLC := hid hLC
    clear hLC
    have K := latest_any _ c w16 (HO.out w16 h16) HSZ.out
    rw [HLC.out, HNN.out] at K
    have HK := hid K
    clear K
    obtain ⟨⟨a0, a1, a2, a3⟩, ⟨x0, x1, x2, x3⟩, q0, q1, q2, q3⟩ := FC.out w16 h16
    go_wp2_with fail
    clear a0 a1 a2 a3 x0 x1 x2 x3 q0 q1 q2 q3
    refine (HK.out).mono ?_
    rintro e w17 ⟨r2, rfl, h, hr2, hr3⟩
    have h17 := h16.trans h
    have T17 := T16.trans h
    clear h
    have HR2 : Hid (LC = 0 → ∃ A' c', r2 = .slice A' N c' ∧ ∀ w', Ext w17 w' → Ints w' A' (rowG (gapsM allT c) N)) := fun e => by
      obtain ⟨A', c', e1, e2⟩ := hr2 e
      exact ⟨A', c', e1, fun w' h => e2.ext h⟩
    have HR3 := hid hr3
    have S17 : Ext w17 w17 := Ext.refl _
    clear HK hr2 hr3
    have K := refcheck_any _ c w17 (HXX.out w17 h17) HSZ.out
    rw [H0.out] at K
    have HK := hid K
    clear K
    obtain ⟨⟨a0, a1, a2, a3⟩, ⟨x0, x1, x2, x3⟩, q0, q1, q2, q3⟩ := FC.out w17 h17
    go_wp2_with fail
    clear a0 a1 a2 a3 x0 x1 x2 x3 q0 q1 q2 q3
    refine (HK.out).mono ?_
    rintro e w18 ⟨rfl, h⟩
    have h18 := h17.trans h
    have T18 := T17.trans h
    have S18 := S17.trans h
    clear h
    clear HK
    obtain ⟨⟨a0, a1, a2, a3⟩, ⟨x0, x1, x2, x3⟩, q0, q1, q2, q3⟩ := FC.out w18 h18
    go_wp2
    clear a0 a1 a2 a3 x0 x1 x2 x3 q0 q1 q2 q3
    refine wp_region_shut Ext (fun w' => Ext w18 w') (fun | 5 => some (fun v w' => ∃ B, v = .slice (some ⟨B, 0, none⟩) c.wi.toNat c.wi.toNat ∧ Bools w' (some ⟨B, 0, none⟩) (rl c.wi.toNat fun _ => true)) | 6 => some (fun v _ => v = .bool false) | _ => none) (by kernel_rfl) (by kernel_rfl) (fun _ _ h k => h.trans k) ?hTfalseu5 (Ext.drew (Ext.refl w18)) ?_
    case hTfalseu5 =>
      intro i R hR
      match i, hR with
      | 5, hR => cases hR; exact fun _ _ _ ⟨B, e, h⟩ k => ⟨B, e, h.ext k⟩
      | 6, hR => cases hR; exact fun _ _ _ h _ => h
    refine wM_val ?uzfalse_5_0 rfl rfl Ext.refl (fun w' hD => ?hzfalse_5_0) (fun phzfalse_5_0 => ?nzfalse_5_0)
    case hzfalse_5_0 =>
      obtain ⟨-, ⟨d0, d1, d2, d3⟩, -⟩ := FC.out _ (h18.trans hD.1)
      go_simp; rfl
    simp only [Act.put, List.setIfInBounds_toArray, List.set_cons_succ, List.set_cons_zero, Nat.reduceAdd]
    refine wM_val ?uzfalse_5_1 rfl rfl Ext.refl (fun w' hD => ?hzfalse_5_1) (fun phzfalse_5_1 => ?nzfalse_5_1)
    case hzfalse_5_1 =>
      obtain ⟨-, ⟨d0, d1, d2, d3⟩, -⟩ := FC.out _ (h18.trans hD.1)
      go_simp; rfl
    simp only [Act.put, List.setIfInBounds_toArray, List.set_cons_succ, List.set_cons_zero, Nat.reduceAdd]
    refine wM_val ?uzfalse_5_2 rfl rfl Ext.refl (fun w' hD => ?hzfalse_5_2) (fun phzfalse_5_2 => ?nzfalse_5_2)
    case hzfalse_5_2 =>
      obtain ⟨-, ⟨d0, d1, d2, d3⟩, -⟩ := FC.out _ (h18.trans hD.1)
      go_simp; rfl
    simp only [Act.put, List.setIfInBounds_toArray, List.set_cons_succ, List.set_cons_zero, Nat.reduceAdd]
    refine wM_val ?uzfalse_5_3 rfl rfl Ext.refl (fun w' hD => ?hzfalse_5_3) (fun phzfalse_5_3 => ?nzfalse_5_3)
    case hzfalse_5_3 =>
      obtain ⟨-, ⟨d0, d1, d2, d3⟩, -⟩ := FC.out _ (h18.trans hD.1)
      go_simp; rfl
    simp only [Act.put, List.setIfInBounds_toArray, List.set_cons_succ, List.set_cons_zero, Nat.reduceAdd]
    refine wM_val ?uzfalse_5_4 rfl rfl Ext.refl (fun w' hD => ?hzfalse_5_4) (fun phzfalse_5_4 => ?nzfalse_5_4)
    case hzfalse_5_4 =>
      obtain ⟨-, ⟨d0, d1, d2, d3⟩, -⟩ := FC.out _ (h18.trans hD.1)
      go_simp; rfl
    simp only [Act.put, List.setIfInBounds_toArray, List.set_cons_succ, List.set_cons_zero, Nat.reduceAdd]
    refine wM_op _ rfl rfl (opens_call ?fzfalse_5_5 ?gzfalse_5_5 (fun w' hD => ?hzfalse_5_5) (fun w' hD => ?czfalse_5_5)) (fun v5 hv5 => ?nzfalse_5_5)
    case hzfalse_5_5 => go_simp; constructor <;> rfl
    case czfalse_5_5 =>
      refine (refevery_any _ c w' (HXX.out w' (h18.trans hD.1)) HWI.out.1 HWI.out.2).mono ?_
      rintro e w2 ⟨B, rfl, -, hB, hb⟩
      exact ⟨_, rfl, hb, B, rfl, hB.bools⟩
    obtain ⟨_, -, -, Be, rfl, -⟩ := hv5
    simp only [Act.put, List.setIfInBounds_toArray, List.set_cons_succ, List.set_cons_zero, Nat.reduceAdd]
    refine wM_op _ rfl rfl (opens_call ?fzfalse_5_6 ?gzfalse_5_6 (fun w' hD => ?hzfalse_5_6) (fun w' hD => ?czfalse_5_6)) (fun v6 hv6 => ?nzfalse_5_6)
    case hzfalse_5_6 => go_simp; constructor <;> rfl
    case czfalse_5_6 =>
      obtain ⟨-, B9, e9, hB9⟩ := hD.get 5 (by first | kernel_rfl | simp [Region.binds])
      cases e9
      have K := refclash_any _ c (some ⟨Be, 0, none⟩) c.wi.toNat (rl c.wi.toNat fun _ => true) w' (HXX.out w' (h18.trans hD.1)) HSZ.out H0.out hB9 (rl_len _ _)
      rw [rl_len, HCL.out] at K
      refine K.mono ?_
      rintro e w2 ⟨rfl, hb⟩
      exact ⟨_, rfl, hb, rfl⟩
    obtain ⟨_, -, -, rfl⟩ := hv6
    simp only [Act.put, List.setIfInBounds_toArray, List.set_cons_succ, List.set_cons_zero, Nat.reduceAdd]
    refine wM_val ?uzfalse_5_7 rfl rfl Ext.refl (fun w' hD => ?hzfalse_5_7) (fun phzfalse_5_7 => ?nzfalse_5_7)
    case hzfalse_5_7 =>
      obtain ⟨-, ⟨d0, d1, d2, d3⟩, -⟩ := FC.out _ (h18.trans hD.1)
      go_simp; rfl
    simp only [Act.put, List.setIfInBounds_toArray, List.set_cons_succ, List.set_cons_zero, Nat.reduceAdd]
    refine wM_nil ?_
    intro w19 hw19 hF9
    clear hF9
    have h19 := h18.trans hw19
    have T19 := T18.trans hw19
    have S19 := S18.trans hw19
    clear hw19
    have K := refminutes_any _ c (some ⟨Bt, 0, none⟩) N (truthL c) w19 (HXX.out w19 h19) HSZ.out (HIT.out w19 T19).1 HTS.out
    rw [HTM.out, HTL.out] at K
    have HK := hid K
    clear K
    obtain ⟨⟨a0, a1, a2, a3⟩, ⟨x0, x1, x2, x3⟩, q0, q1, q2, q3⟩ := FC.out w19 h19
    go_wp2_with fail
    clear a0 a1 a2 a3 x0 x1 x2 x3 q0 q1 q2 q3
    refine (HK.out).mono ?_
    rintro e w20 ⟨rfl, h⟩
    have h20 := h19.trans h
    have T20 := T19.trans h
    have S20 := S19.trans h
    clear h
    clear HK
    have K := refbroken_any _ c (some ⟨Bt, 0, none⟩) N (truthL c) w20 (HXX.out w20 h20) HSZ.out (HIT.out w20 T20).1 H0.out HTE.out HTR.out
    rw [HTB.out, HTL.out] at K
    simp only [List.length_nil] at K
    have HK := hid K
    clear K
    have ct := (HIT.out w20 T20).2
    obtain ⟨⟨a0, a1, a2, a3⟩, ⟨x0, x1, x2, x3⟩, q0, q1, q2, q3⟩ := FC.out w20 h20
    go_wp2_with fail
    clear a0 a1 a2 a3 x0 x1 x2 x3 q0 q1 q2 q3
    refine (HK.out).mono ?_
    rintro e w21 ⟨A14, k14, rfl, -, h⟩
    have h21 := h20.trans h
    have T21 := T20.trans h
    have S21 := S20.trans h
    clear h
    clear HK ct
    obtain ⟨⟨a0, a1, a2, a3⟩, ⟨x0, x1, x2, x3⟩, q0, q1, q2, q3⟩ := FC.out w21 h21
    go_wp2
    clear a0 a1 a2 a3 x0 x1 x2 x3 q0 q1 q2 q3
    refine wp_region_shut Ext (fun w' => Ext w21 w') (fun | 2 => some (fun v w' => ∃ B, v = .slice (some ⟨B, 0, none⟩) c.wi.toNat c.wi.toNat ∧ Bools w' (some ⟨B, 0, none⟩) (rl c.wi.toNat fun _ => true)) | 3 => some (fun v w' => ∃ g1 g2, v = .tuple #[.slice (some ⟨g1, 0, none⟩) N N, .slice (some ⟨g2, 0, none⟩) N N, .bool true] ∧ RV w' g1 N (fun j => .int .i64 (G.sm j)) ∧ RV w' g2 N (fun j => .bool (G.is j))) | _ => none) (by kernel_rfl) (by kernel_rfl) (fun _ _ h k => h.trans k) ?hG6 (Ext.drew (Ext.refl w21)) ?_
    case hG6 =>
      intro i R hR
      match i, hR with
      | 2, hR => cases hR; exact fun _ _ _ ⟨B, e, h⟩ k => ⟨B, e, h.ext k⟩
      | 3, hR => cases hR; exact fun _ _ _ ⟨g1, g2, e, h1, h2⟩ k => ⟨g1, g2, e, h1.ext k, h2.ext k⟩
    refine wM_val ?ug6_0 rfl rfl Ext.refl (fun w' hD => ?hg6_0) (fun phg6_0 => ?ng6_0)
    case hg6_0 =>
      obtain ⟨-, ⟨d0, d1, d2, d3⟩, -⟩ := FC.out _ (h21.trans hD.1)
      go_simp; rfl
    simp only [Act.put, List.setIfInBounds_toArray, List.set_cons_succ, List.set_cons_zero, Nat.reduceAdd]
    refine wM_val ?ug6_1 rfl rfl Ext.refl (fun w' hD => ?hg6_1) (fun phg6_1 => ?ng6_1)
    case hg6_1 =>
      obtain ⟨-, ⟨d0, d1, d2, d3⟩, -⟩ := FC.out _ (h21.trans hD.1)
      go_simp; rfl
    simp only [Act.put, List.setIfInBounds_toArray, List.set_cons_succ, List.set_cons_zero, Nat.reduceAdd]
    refine wM_op _ rfl rfl (opens_call ?fg6_2 ?gg6_2 (fun w' hD => ?hg6_2) (fun w' hD => ?cg6_2)) (fun v2 hv2 => ?ng6_2)
    case hg6_2 => go_simp; constructor <;> rfl
    case cg6_2 =>
      refine (refevery_any _ c w' (HXX.out w' (h21.trans hD.1)) HWI.out.1 HWI.out.2).mono ?_
      rintro e w2 ⟨B, rfl, -, hB, hb⟩
      exact ⟨_, rfl, hb, B, rfl, hB.bools⟩
    obtain ⟨_, -, -, Be2, rfl, -⟩ := hv2
    simp only [Act.put, List.setIfInBounds_toArray, List.set_cons_succ, List.set_cons_zero, Nat.reduceAdd]
    refine wM_op _ rfl rfl (opens_call ?fg6_3 ?gg6_3 (fun w' hD => ?hg6_3) (fun w' hD => ?cg6_3)) (fun v3 hv3 => ?ng6_3)
    case hg6_3 => go_simp; constructor <;> rfl
    case cg6_3 =>
      obtain ⟨-, B9, e9, hB9⟩ := hD.get 2 (by first | kernel_rfl | simp [Region.binds])
      cases e9
      have K := refgaps_any _ c (some ⟨Be2, 0, none⟩) c.wi.toNat (rl c.wi.toNat fun _ => true) 0 w' (HXX.out w' (h21.trans hD.1)) HSZ.out H0.out hB9 (rl_len _ _) HEV0.out
      rw [rl_len, HG.out, HNN.out] at K
      refine K.mono ?_
      rintro e w2 ⟨g1, g2, rfl, hI, hJ, hb, -, -⟩
      exact ⟨_, rfl, hb, g1, g2, rfl, hI, hJ⟩
    obtain ⟨_, -, -, g1, g2, rfl, -⟩ := hv3
    simp only [Act.put, List.setIfInBounds_toArray, List.set_cons_succ, List.set_cons_zero, Nat.reduceAdd]
    refine wM_val ?ug6_4 rfl rfl Ext.refl (fun w' hD => ?hg6_4) (fun phg6_4 => ?ng6_4)
    case hg6_4 =>
      obtain ⟨-, ⟨d0, d1, d2, d3⟩, -⟩ := FC.out _ (h21.trans hD.1)
      go_simp; rfl
    simp only [Act.put, List.setIfInBounds_toArray, List.set_cons_succ, List.set_cons_zero, Nat.reduceAdd]
    refine wM_val ?ug6_5 rfl rfl Ext.refl (fun w' hD => ?hg6_5) (fun phg6_5 => ?ng6_5)
    case hg6_5 =>
      obtain ⟨-, ⟨d0, d1, d2, d3⟩, -⟩ := FC.out _ (h21.trans hD.1)
      go_simp; rfl
    simp only [Act.put, List.setIfInBounds_toArray, List.set_cons_succ, List.set_cons_zero, Nat.reduceAdd]
    refine wM_val ?ug6_6 rfl rfl Ext.refl (fun w' hD => ?hg6_6) (fun phg6_6 => ?ng6_6)
    case hg6_6 =>
      obtain ⟨-, ⟨d0, d1, d2, d3⟩, -⟩ := FC.out _ (h21.trans hD.1)
      go_simp; rfl
    simp only [Act.put, List.setIfInBounds_toArray, List.set_cons_succ, List.set_cons_zero, Nat.reduceAdd]
    refine wM_val ?ug6_7 rfl rfl Ext.refl (fun w' hD => ?hg6_7) (fun phg6_7 => ?ng6_7)
    case hg6_7 =>
      obtain ⟨-, ⟨d0, d1, d2, d3⟩, -⟩ := FC.out _ (h21.trans hD.1)
      go_simp; rfl
    simp only [Act.put, List.setIfInBounds_toArray, List.set_cons_succ, List.set_cons_zero, Nat.reduceAdd]
    refine wM_val ?ug6_8 rfl rfl Ext.refl (fun w' hD => ?hg6_8) (fun phg6_8 => ?ng6_8)
    case hg6_8 =>
      obtain ⟨-, ⟨d0, d1, d2, d3⟩, -⟩ := FC.out _ (h21.trans hD.1)
      go_simp; rfl
    simp only [Act.put, List.setIfInBounds_toArray, List.set_cons_succ, List.set_cons_zero, Nat.reduceAdd]
    refine wM_val ?ug6_9 rfl rfl Ext.refl (fun w' hD => ?hg6_9) (fun phg6_9 => ?ng6_9)
    case hg6_9 =>
      obtain ⟨-, ⟨d0, d1, d2, d3⟩, -⟩ := FC.out _ (h21.trans hD.1)
      go_simp; rfl
    simp only [Act.put, List.setIfInBounds_toArray, List.set_cons_succ, List.set_cons_zero, Nat.reduceAdd]
    refine wM_val ?ug6_10 rfl rfl Ext.refl (fun w' hD => ?hg6_10) (fun phg6_10 => ?ng6_10)
    case hg6_10 =>
      obtain ⟨-, ⟨d0, d1, d2, d3⟩, -⟩ := FC.out _ (h21.trans hD.1)
      go_simp; rfl
    simp only [Act.put, List.setIfInBounds_toArray, List.set_cons_succ, List.set_cons_zero, Nat.reduceAdd]
    refine wM_nil ?_
    intro w22 hw22 hF9
    obtain ⟨-, g1', g2', e3, hI, hJ⟩ := hF9 3
    cases e3
    clear hF9
    have h22 := h21.trans hw22
    have T22 := T21.trans hw22
    have S22 := S21.trans hw22
    clear hw22
    have HGI : Hid (∀ w', Ext w22 w' → Ints w' (some ⟨g1, 0, none⟩) (rl N G.sm)) := fun w' h => hI.ints.ext h
    have HGJ : Hid (∀ w', Ext w22 w' → RV w' g2 N (fun j => .bool (G.is j))) := fun w' h => hJ.ext h
    have U22 : Ext w22 w22 := Ext.refl _
    clear hI hJ
    go_wp2
    go_loopw [8, 18, 22, 171] (fun s8 s18 _ i wr => ∃ kk : Nat, kk ≤ N ∧ i = .int .i64 (kk : Int) ∧ wr = w22 ∧ ((s8 = .int .i64 0 ∧ s18 = .slice (some ⟨g1, 0, none⟩) N N ∧ Hid (∀ j, j < kk → G.is j = true)) ∨ (s8 = .int .i64 6 ∧ s18 = .slice none 0 0 ∧ Hid (∃ j, j < N ∧ G.is j = false)))) (fun _ _ _ i _ => N - (intOf i).toNat)
    case atStart => exact ⟨0, Nat.zero_le _, rfl, rfl, .inl ⟨rfl, rfl, fun j hj => absurd hj (by omega)⟩⟩
    case round =>
      obtain ⟨kk, hk, rfl, hwr, hst⟩ := hrel
      by_cases hlt : kk < N
      · have hlt' : (kk : Int) < (N : Int) := by omega
        have cj : w22.cell? ⟨g2, kk, none⟩ = some (.bool (G.is kk)) := ((HGJ.out w22 (Ext.refl _)) kk hlt).1
        rcases hst with ⟨rfl, rfl, HQ⟩ | ⟨rfl, rfl, HQ⟩
        · cases hq : G.is kk
          · rw [hq] at cj
            have HQ2 : Hid (∃ j, j < N ∧ G.is j = false) := ⟨kk, hlt, hq⟩
            clear HQ
            go_wp2
            go_roundw
            case rel => exact ⟨kk + 1, by omega, by go_num, (by first | exact hwr | trivial), .inr ⟨rfl, rfl, HQ2⟩⟩
            case measure => simp [intOf]; omega
          · rw [hq] at cj
            have HQ2 : Hid (∀ j, j < kk + 1 → G.is j = true) := fun j hj => by
              by_cases e : j = kk
              · rw [e]; exact hq
              · exact HQ.out j (by omega)
            clear HQ
            go_wp2
            go_roundw
            case rel => exact ⟨kk + 1, by omega, by go_num, (by first | exact hwr | trivial), .inl ⟨rfl, rfl, HQ2⟩⟩
            case measure => simp [intOf]; omega
        · cases hq : G.is kk
          all_goals
            rw [hq] at cj
            clear hq
            go_wp2
            go_roundw
            case rel => exact ⟨kk + 1, by omega, by go_num, (by first | exact hwr | trivial), .inr ⟨rfl, rfl, HQ⟩⟩
            case measure => simp [intOf]; omega
      · have hlt' : ¬ (kk : Int) < (N : Int) := by omega
        subst hwr
        rcases hst with ⟨rfl, rfl, HQ⟩ | ⟨rfl, rfl, HQ⟩
        · have hLA := HLA.out (fun j hj => HQ.out j (by omega))
          obtain rfl : LC = 0 := HLC.out.symm.trans hLA.1
          obtain ⟨A15, k15, rfl, hI15⟩ := HR2.out rfl
          have HRL := hid hLA.2
          have HI15 := hid hI15
          clear hLA hI15 HR2 HR3 HQ
          have K := eq_int A15 (some ⟨g1, 0, none⟩) k15 N (rowG (gapsM allT c) N) (rl N G.sm) wr (HI15.out wr S22) (HGI.out wr (Ext.refl _)) (by rw [rowG_len]; omega) (by rw [rl_len]; omega)
          rw [HRL.out, beq_self_eq_true, rowG_len] at K
          have HK := hid K
          clear K
          obtain ⟨⟨a0, a1, a2, a3⟩, ⟨x0, x1, x2, x3⟩, q0, q1, q2, q3⟩ := FC.out wr h22
          go_wp2_with fail
          clear a0 a1 a2 a3 x0 x1 x2 x3 q0 q1 q2 q3
          refine HK.out.mono ?_
          rintro e w23 ⟨rfl, h⟩
          have h23 := h22.trans h
          clear h HK
          obtain ⟨⟨a0, a1, a2, a3⟩, ⟨x0, x1, x2, x3⟩, q0, q1, q2, q3⟩ := FC.out w23 h23
          go_wp2_with fail
          clear a0 a1 a2 a3 x0 x1 x2 x3 q0 q1 q2 q3
          refine (same_yes _ _ c w23 (HO.out w23 h23) (HV.out w23 h23) HSZ.out).mono ?_
          rintro e v1 ⟨rfl, h⟩
          have hh1 := h23.trans h
          clear h
          go_wp2_with fail
          refine (awake_any v1).mono ?_
          rintro e v2 ⟨rfl, h⟩
          go_wp2
          go_ret
          exact ⟨rfl, HXN.out.trans (hh1.trans h)⟩
        · obtain ⟨j, hj, hi⟩ := HQ.out
          obtain rfl : LC = 6 := HLC.out.symm.trans (HLB.out j hj hi)
          obtain rfl := HR3.out (by decide)
          clear HR2 HR3 HQ
          have K := eq_int none none 0 0 [] [] wr (Ints.nil _ _) (Ints.nil _ _) (by decide) (by decide)
          rw [beq_self_eq_true] at K
          simp only [List.length_nil] at K
          have HK := hid K
          clear K
          obtain ⟨⟨a0, a1, a2, a3⟩, ⟨x0, x1, x2, x3⟩, q0, q1, q2, q3⟩ := FC.out wr h22
          go_wp2_with fail
          clear a0 a1 a2 a3 x0 x1 x2 x3 q0 q1 q2 q3
          refine HK.out.mono ?_
          rintro e w23 ⟨rfl, h⟩
          have h23 := h22.trans h
          clear h HK
          obtain ⟨⟨a0, a1, a2, a3⟩, ⟨x0, x1, x2, x3⟩, q0, q1, q2, q3⟩ := FC.out w23 h23
          go_wp2_with fail
          clear a0 a1 a2 a3 x0 x1 x2 x3 q0 q1 q2 q3
          refine (same_yes _ _ c w23 (HO.out w23 h23) (HV.out w23 h23) HSZ.out).mono ?_
          rintro e v1 ⟨rfl, h⟩
          have hh1 := h23.trans h
          clear h
          go_wp2_with fail
          refine (awake_any v1).mono ?_
          rintro e v2 ⟨rfl, h⟩
          go_wp2
          go_ret
          exact ⟨rfl, HXN.out.trans (hh1.trans h)⟩
  subst hz0
  have hbz := HBZ.out
  rw [if_pos rfl] at hbz
  have HBE := hid hbz
  obtain ⟨P, hP⟩ : ∃ P, (((brkC c row).length : Int) == 0) = P := ⟨_, rfl⟩
  have hhz := HHZ.out
  rw [hP, decide_eq_true rfl, Bool.true_and] at hhz
  have HHE := hid hhz
  have b4 : (P != P) = false := by cases P <;> rfl
  clear hbz hhz HBZ HHZ
  have K := holdsw_any _ c (some ⟨gd, 0, none⟩) kd row w11 (HO.out w11 h11) HSZ.out (HD.out w11 h11) HLL.out
  rw [HM.out, HHE.out] at K
  have HK := hid K
  clear K
  obtain ⟨⟨a0, a1, a2, a3⟩, ⟨x0, x1, x2, x3⟩, q0, q1, q2, q3⟩ := FC.out w11 h11
  go_wp2_with fail
  clear a0 a1 a2 a3 x0 x1 x2 x3 q0 q1 q2 q3
  refine (HK.out).mono ?_
  rintro e w12 ⟨rfl, h⟩
  have h12 := h11.trans h
  have X12 := X11.trans h
  clear h
  clear HK
  clear cz
  have K := brokenw_any _ c (some ⟨gd, 0, none⟩) kd row w12 (HO.out w12 h12) HSZ.out (HD.out w12 h12) HLL.out
  rw [HBE.out] at K
  have HK := hid K
  clear K
  obtain ⟨⟨a0, a1, a2, a3⟩, ⟨x0, x1, x2, x3⟩, q0, q1, q2, q3⟩ := FC.out w12 h12
  go_wp2_with fail
  clear a0 a1 a2 a3 x0 x1 x2 x3 q0 q1 q2 q3
  refine (HK.out).mono ?_
  rintro e w13 ⟨r9, rfl, h, -, hr9⟩
  have h13 := h12.trans h
  have X13 := X12.trans h
  clear h
  clear HK
  obtain ⟨A11, k11, rfl, hI11⟩ := hr9 (by first | rfl | trivial)
  clear hr9
  have HI11 : Hid (∀ w', Ext w13 w' → Ints w' A11 (brkC c row)) := fun w' h => hI11.ext h
  have t13 : Ext w13 w13 := Ext.refl _
  clear hI11
  have K := eq_int A11 A9 k11 k9 (brkC c row) (brkC c row) w13 (HI11.out w13 t13) (HI9.out w13 X13) HBL.out HBL.out
  rw [beq_self_eq_true] at K
  have HK := hid K
  clear K
  obtain ⟨⟨a0, a1, a2, a3⟩, ⟨x0, x1, x2, x3⟩, q0, q1, q2, q3⟩ := FC.out w13 h13
  go_wp2_with fail
  clear a0 a1 a2 a3 x0 x1 x2 x3 q0 q1 q2 q3
  refine (HK.out).mono ?_
  rintro e w14 ⟨rfl, h⟩
  have h14 := h13.trans h
  have X14 := X13.trans h
  have t14 := t13.trans h
  clear h
  clear HK
  have K := eq_int (some ⟨gd, 0, none⟩) (some ⟨bz, oz, none⟩) kd k row row w14 (HD.out w14 h14) (HA'.out w14 h14) HLL.out HLL.out
  rw [beq_self_eq_true] at K
  have HK := hid K
  clear K
  obtain ⟨⟨a0, a1, a2, a3⟩, ⟨x0, x1, x2, x3⟩, q0, q1, q2, q3⟩ := FC.out w14 h14
  go_wp2_with fail
  clear a0 a1 a2 a3 x0 x1 x2 x3 q0 q1 q2 q3
  refine (HK.out).mono ?_
  rintro e w15 ⟨rfl, h⟩
  have h15 := h14.trans h
  have X15 := X14.trans h
  have t15 := t14.trans h
  clear h
  clear HK
  clear hP
  have hc0 := HC0.out
  have H0 := hid hc0
  have hwi := (manyOK_parts (checkC_ok hc0).1).2.2.2
  have HWI : Hid (0 ≤ c.wi ∧ c.wi ≤ 6) := ⟨hwi.1, hwi.2.1⟩
  have hbt := belT_all c hc0
  clear hwi
  cases hcl : clashM (gapsM allT c)
  case true =>
    have HCL : Hid (clashR (belT (rl c.wi.toNat fun _ => true)) c = true) := by unfold Hid; rw [hbt, hcl]
    have HTC : Hid (toldC c = 7) := by unfold Hid; rw [told_is H0.out, hcl]; rfl
    have HLC : Hid (latestC c = 7) := latest_err HTC.out (by decide)
    clear hbt hcl
    have K := truth_any _ c w15 (HO.out w15 h15) HSZ.out
    rw [HTC.out] at K
    have HK := hid K
    clear K
    obtain ⟨⟨a0, a1, a2, a3⟩, ⟨x0, x1, x2, x3⟩, q0, q1, q2, q3⟩ := FC.out w15 h15
    go_wp2_with fail
    clear a0 a1 a2 a3 x0 x1 x2 x3 q0 q1 q2 q3
    refine (HK.out).mono ?_
    rintro e w16 ⟨r1, rfl, h, -, hr1⟩
    have h16 := h15.trans h
    clear h
    obtain rfl := hr1 (by decide)
    clear HK hr1
    have K := latest_any _ c w16 (HO.out w16 h16) HSZ.out
    rw [HLC.out] at K
    have HK := hid K
    clear K
    obtain ⟨⟨a0, a1, a2, a3⟩, ⟨x0, x1, x2, x3⟩, q0, q1, q2, q3⟩ := FC.out w16 h16
    go_wp2_with fail
    clear a0 a1 a2 a3 x0 x1 x2 x3 q0 q1 q2 q3
    refine (HK.out).mono ?_
    rintro e w17 ⟨r2, rfl, h, -, hr2⟩
    have h17 := h16.trans h
    clear h
    obtain rfl := hr2 (by decide)
    clear HK hr2
    have K := refcheck_any _ c w17 (HXX.out w17 h17) HSZ.out
    rw [H0.out] at K
    have HK := hid K
    clear K
    obtain ⟨⟨a0, a1, a2, a3⟩, ⟨x0, x1, x2, x3⟩, q0, q1, q2, q3⟩ := FC.out w17 h17
    go_wp2_with fail
    clear a0 a1 a2 a3 x0 x1 x2 x3 q0 q1 q2 q3
    refine (HK.out).mono ?_
    rintro e w18 ⟨rfl, h⟩
    have h18 := h17.trans h
    clear h
    clear HK
    obtain ⟨⟨a0, a1, a2, a3⟩, ⟨x0, x1, x2, x3⟩, q0, q1, q2, q3⟩ := FC.out w18 h18
    go_wp2
    clear a0 a1 a2 a3 x0 x1 x2 x3 q0 q1 q2 q3
    refine wp_region_shut Ext (fun w' => Ext w18 w') (fun | 5 => some (fun v w' => ∃ B, v = .slice (some ⟨B, 0, none⟩) c.wi.toNat c.wi.toNat ∧ Bools w' (some ⟨B, 0, none⟩) (rl c.wi.toNat fun _ => true)) | 6 => some (fun v _ => v = .bool true) | _ => none) (by kernel_rfl) (by kernel_rfl) (fun _ _ h k => h.trans k) ?hTtrueu7 (Ext.drew (Ext.refl w18)) ?_
    case hTtrueu7 =>
      intro i R hR
      match i, hR with
      | 5, hR => cases hR; exact fun _ _ _ ⟨B, e, h⟩ k => ⟨B, e, h.ext k⟩
      | 6, hR => cases hR; exact fun _ _ _ h _ => h
    refine wM_val ?uztrue_7_0 rfl rfl Ext.refl (fun w' hD => ?hztrue_7_0) (fun phztrue_7_0 => ?nztrue_7_0)
    case hztrue_7_0 =>
      obtain ⟨-, ⟨d0, d1, d2, d3⟩, -⟩ := FC.out _ (h18.trans hD.1)
      go_simp; rfl
    simp only [Act.put, List.setIfInBounds_toArray, List.set_cons_succ, List.set_cons_zero, Nat.reduceAdd]
    refine wM_val ?uztrue_7_1 rfl rfl Ext.refl (fun w' hD => ?hztrue_7_1) (fun phztrue_7_1 => ?nztrue_7_1)
    case hztrue_7_1 =>
      obtain ⟨-, ⟨d0, d1, d2, d3⟩, -⟩ := FC.out _ (h18.trans hD.1)
      go_simp; rfl
    simp only [Act.put, List.setIfInBounds_toArray, List.set_cons_succ, List.set_cons_zero, Nat.reduceAdd]
    refine wM_val ?uztrue_7_2 rfl rfl Ext.refl (fun w' hD => ?hztrue_7_2) (fun phztrue_7_2 => ?nztrue_7_2)
    case hztrue_7_2 =>
      obtain ⟨-, ⟨d0, d1, d2, d3⟩, -⟩ := FC.out _ (h18.trans hD.1)
      go_simp; rfl
    simp only [Act.put, List.setIfInBounds_toArray, List.set_cons_succ, List.set_cons_zero, Nat.reduceAdd]
    refine wM_val ?uztrue_7_3 rfl rfl Ext.refl (fun w' hD => ?hztrue_7_3) (fun phztrue_7_3 => ?nztrue_7_3)
    case hztrue_7_3 =>
      obtain ⟨-, ⟨d0, d1, d2, d3⟩, -⟩ := FC.out _ (h18.trans hD.1)
      go_simp; rfl
    simp only [Act.put, List.setIfInBounds_toArray, List.set_cons_succ, List.set_cons_zero, Nat.reduceAdd]
    refine wM_val ?uztrue_7_4 rfl rfl Ext.refl (fun w' hD => ?hztrue_7_4) (fun phztrue_7_4 => ?nztrue_7_4)
    case hztrue_7_4 =>
      obtain ⟨-, ⟨d0, d1, d2, d3⟩, -⟩ := FC.out _ (h18.trans hD.1)
      go_simp; rfl
    simp only [Act.put, List.setIfInBounds_toArray, List.set_cons_succ, List.set_cons_zero, Nat.reduceAdd]
    refine wM_op _ rfl rfl (opens_call ?fztrue_7_5 ?gztrue_7_5 (fun w' hD => ?hztrue_7_5) (fun w' hD => ?cztrue_7_5)) (fun v5 hv5 => ?nztrue_7_5)
    case hztrue_7_5 => go_simp; constructor <;> rfl
    case cztrue_7_5 =>
      refine (refevery_any _ c w' (HXX.out w' (h18.trans hD.1)) HWI.out.1 HWI.out.2).mono ?_
      rintro e w2 ⟨B, rfl, -, hB, hb⟩
      exact ⟨_, rfl, hb, B, rfl, hB.bools⟩
    obtain ⟨_, -, -, Be, rfl, -⟩ := hv5
    simp only [Act.put, List.setIfInBounds_toArray, List.set_cons_succ, List.set_cons_zero, Nat.reduceAdd]
    refine wM_op _ rfl rfl (opens_call ?fztrue_7_6 ?gztrue_7_6 (fun w' hD => ?hztrue_7_6) (fun w' hD => ?cztrue_7_6)) (fun v6 hv6 => ?nztrue_7_6)
    case hztrue_7_6 => go_simp; constructor <;> rfl
    case cztrue_7_6 =>
      obtain ⟨-, B9, e9, hB9⟩ := hD.get 5 (by first | kernel_rfl | simp [Region.binds])
      cases e9
      have K := refclash_any _ c (some ⟨Be, 0, none⟩) c.wi.toNat (rl c.wi.toNat fun _ => true) w' (HXX.out w' (h18.trans hD.1)) HSZ.out H0.out hB9 (rl_len _ _)
      rw [rl_len, HCL.out] at K
      refine K.mono ?_
      rintro e w2 ⟨rfl, hb⟩
      exact ⟨_, rfl, hb, rfl⟩
    obtain ⟨_, -, -, rfl⟩ := hv6
    simp only [Act.put, List.setIfInBounds_toArray, List.set_cons_succ, List.set_cons_zero, Nat.reduceAdd]
    refine wM_val ?uztrue_7_7 rfl rfl Ext.refl (fun w' hD => ?hztrue_7_7) (fun phztrue_7_7 => ?nztrue_7_7)
    case hztrue_7_7 =>
      obtain ⟨-, ⟨d0, d1, d2, d3⟩, -⟩ := FC.out _ (h18.trans hD.1)
      go_simp; rfl
    simp only [Act.put, List.setIfInBounds_toArray, List.set_cons_succ, List.set_cons_zero, Nat.reduceAdd]
    refine wM_nil ?_
    intro w19 hw19 hF9
    clear hF9
    have h19 := h18.trans hw19
    clear hw19
    obtain ⟨⟨a0, a1, a2, a3⟩, ⟨x0, x1, x2, x3⟩, q0, q1, q2, q3⟩ := FC.out w19 h19
    go_wp2_with fail
    clear a0 a1 a2 a3 x0 x1 x2 x3 q0 q1 q2 q3
    refine (same_yes _ _ c w19 (HO.out w19 h19) (HV.out w19 h19) HSZ.out).mono ?_
    rintro e v1 ⟨rfl, h⟩
    have hh1 := h19.trans h
    clear h
    go_wp2_with fail
    refine (awake_any v1).mono ?_
    rintro e v2 ⟨rfl, h⟩
    go_wp2
    go_ret
    exact ⟨rfl, HXN.out.trans (hh1.trans h)⟩
  have HCL : Hid (clashR (belT (rl c.wi.toNat fun _ => true)) c = false) := by unfold Hid; rw [hbt, hcl]
  have htc : toldC c = 0 := by rw [told_is H0.out, hcl]; rfl
  have HTC := hid htc
  have hev := checkC_ev H0.out
  obtain ⟨N, hN⟩ : ∃ N : Nat, c.ev.toNat = N := ⟨_, rfl⟩
  have HNN := hid hN
  have hN1 : (0 : Int) < (N : Int) := by omega
  have hN8 : N ≤ 8 := by omega
  have HEV0 : Hid (((0 : Nat) : Int) < c.ev) := by unfold Hid; omega
  have htm := truth_min htc
  have HTM := hid htm.1
  have HTB := hid htm.2
  have HT0 := hid (truth_ok htc).1
  have HTR : Hid (∀ x ∈ truthL c, -1000000 ≤ x ∧ x ≤ 1000000) := fun x hx => by have := (truth_ok HTC.out).2.1 x hx; omega
  have HTL : Hid ((truthL c).length = N) := by unfold Hid; rw [truthL_len, hN]
  have HTE : Hid (((truthL c).length : Int) = c.ev) := by unfold Hid; rw [truthL_len]; omega
  have HTS : Hid ((truthL c).length ≤ 9223372036854775807) := by unfold Hid; rw [truthL_len]; omega
  have hgb := gapsM_bel H0.out
  have HGB := hid hgb
  have hG2 : (gapsR (belT (rl c.wi.toNat fun _ => true)) c 0).2 = true := gapsR_all H0.out (by rw [hgb]; exact hcl) (by omega)
  obtain ⟨G, hG⟩ : ∃ G, gapsR (belT (rl c.wi.toNat fun _ => true)) c 0 = (G, true) := ⟨_, Prod.ext rfl hG2⟩
  have HG := hid hG
  have HLA : Hid ((∀ j, j < N → G.is j = true) → latestC c = 0 ∧ rl N G.sm = rowG (gapsM allT c) N) := fun hj => by
    have h := latest_ref HTC.out HGB.out (by rw [HG.out, HNN.out]; exact hj)
    rw [HG.out, HNN.out] at h
    exact h
  have HLB : Hid (∀ j, j < N → G.is j = false → latestC c = 6) := fun j hj hi => latest_none HTC.out HGB.out (by rw [HNN.out]; exact hj) (by rw [HG.out]; exact hi)
  clear hbt hcl htm hev hN hgb hG2 hG htc
  have K := truth_any _ c w15 (HO.out w15 h15) HSZ.out
  rw [HTC.out, HNN.out] at K
  have HK := hid K
  clear K
  obtain ⟨⟨a0, a1, a2, a3⟩, ⟨x0, x1, x2, x3⟩, q0, q1, q2, q3⟩ := FC.out w15 h15
  go_wp2_with fail
  clear a0 a1 a2 a3 x0 x1 x2 x3 q0 q1 q2 q3
  refine (HK.out).mono ?_
  rintro e w16 ⟨r1, rfl, h, hr1, -⟩
  have h16 := h15.trans h
  clear h
  obtain ⟨Bt, rfl, -, hIt⟩ := hr1 (by first | rfl | trivial)
  have HIT : Hid (∀ w', Ext w16 w' → Ints w' (some ⟨Bt, 0, none⟩) (truthL c) ∧ w'.cell? ⟨Bt, 0, none⟩ = some (.int .i64 0)) := fun w' h => ⟨hIt.ints.ext h, h.cell (hIt.at_ HT0.out)⟩
  have T16 : Ext w16 w16 := Ext.refl _
  clear HK hr1 hIt
  obtain ⟨LC, hLC⟩ : ∃ LC, latestC c = LC := ⟨_, rfl⟩
  have HLC := hid hLC
  clear hLC
  have K := latest_any _ c w16 (HO.out w16 h16) HSZ.out
  rw [HLC.out, HNN.out] at K
  have HK := hid K
  clear K
  obtain ⟨⟨a0, a1, a2, a3⟩, ⟨x0, x1, x2, x3⟩, q0, q1, q2, q3⟩ := FC.out w16 h16
  go_wp2_with fail
  clear a0 a1 a2 a3 x0 x1 x2 x3 q0 q1 q2 q3
  refine (HK.out).mono ?_
  rintro e w17 ⟨r2, rfl, h, hr2, hr3⟩
  have h17 := h16.trans h
  have T17 := T16.trans h
  clear h
  have HR2 : Hid (LC = 0 → ∃ A' c', r2 = .slice A' N c' ∧ ∀ w', Ext w17 w' → Ints w' A' (rowG (gapsM allT c) N)) := fun e => by
    obtain ⟨A', c', e1, e2⟩ := hr2 e
    exact ⟨A', c', e1, fun w' h => e2.ext h⟩
  have HR3 := hid hr3
  have S17 : Ext w17 w17 := Ext.refl _
  clear HK hr2 hr3
  have K := refcheck_any _ c w17 (HXX.out w17 h17) HSZ.out
  rw [H0.out] at K
  have HK := hid K
  clear K
  obtain ⟨⟨a0, a1, a2, a3⟩, ⟨x0, x1, x2, x3⟩, q0, q1, q2, q3⟩ := FC.out w17 h17
  go_wp2_with fail
  clear a0 a1 a2 a3 x0 x1 x2 x3 q0 q1 q2 q3
  refine (HK.out).mono ?_
  rintro e w18 ⟨rfl, h⟩
  have h18 := h17.trans h
  have T18 := T17.trans h
  have S18 := S17.trans h
  clear h
  clear HK
  obtain ⟨⟨a0, a1, a2, a3⟩, ⟨x0, x1, x2, x3⟩, q0, q1, q2, q3⟩ := FC.out w18 h18
  go_wp2
  clear a0 a1 a2 a3 x0 x1 x2 x3 q0 q1 q2 q3
  refine wp_region_shut Ext (fun w' => Ext w18 w') (fun | 5 => some (fun v w' => ∃ B, v = .slice (some ⟨B, 0, none⟩) c.wi.toNat c.wi.toNat ∧ Bools w' (some ⟨B, 0, none⟩) (rl c.wi.toNat fun _ => true)) | 6 => some (fun v _ => v = .bool false) | _ => none) (by kernel_rfl) (by kernel_rfl) (fun _ _ h k => h.trans k) ?hTfalseu8 (Ext.drew (Ext.refl w18)) ?_
  case hTfalseu8 =>
    intro i R hR
    match i, hR with
    | 5, hR => cases hR; exact fun _ _ _ ⟨B, e, h⟩ k => ⟨B, e, h.ext k⟩
    | 6, hR => cases hR; exact fun _ _ _ h _ => h
  refine wM_val ?uzfalse_8_0 rfl rfl Ext.refl (fun w' hD => ?hzfalse_8_0) (fun phzfalse_8_0 => ?nzfalse_8_0)
  case hzfalse_8_0 =>
    obtain ⟨-, ⟨d0, d1, d2, d3⟩, -⟩ := FC.out _ (h18.trans hD.1)
    go_simp; rfl
  simp only [Act.put, List.setIfInBounds_toArray, List.set_cons_succ, List.set_cons_zero, Nat.reduceAdd]
  refine wM_val ?uzfalse_8_1 rfl rfl Ext.refl (fun w' hD => ?hzfalse_8_1) (fun phzfalse_8_1 => ?nzfalse_8_1)
  case hzfalse_8_1 =>
    obtain ⟨-, ⟨d0, d1, d2, d3⟩, -⟩ := FC.out _ (h18.trans hD.1)
    go_simp; rfl
  simp only [Act.put, List.setIfInBounds_toArray, List.set_cons_succ, List.set_cons_zero, Nat.reduceAdd]
  refine wM_val ?uzfalse_8_2 rfl rfl Ext.refl (fun w' hD => ?hzfalse_8_2) (fun phzfalse_8_2 => ?nzfalse_8_2)
  case hzfalse_8_2 =>
    obtain ⟨-, ⟨d0, d1, d2, d3⟩, -⟩ := FC.out _ (h18.trans hD.1)
    go_simp; rfl
  simp only [Act.put, List.setIfInBounds_toArray, List.set_cons_succ, List.set_cons_zero, Nat.reduceAdd]
  refine wM_val ?uzfalse_8_3 rfl rfl Ext.refl (fun w' hD => ?hzfalse_8_3) (fun phzfalse_8_3 => ?nzfalse_8_3)
  case hzfalse_8_3 =>
    obtain ⟨-, ⟨d0, d1, d2, d3⟩, -⟩ := FC.out _ (h18.trans hD.1)
    go_simp; rfl
  simp only [Act.put, List.setIfInBounds_toArray, List.set_cons_succ, List.set_cons_zero, Nat.reduceAdd]
  refine wM_val ?uzfalse_8_4 rfl rfl Ext.refl (fun w' hD => ?hzfalse_8_4) (fun phzfalse_8_4 => ?nzfalse_8_4)
  case hzfalse_8_4 =>
    obtain ⟨-, ⟨d0, d1, d2, d3⟩, -⟩ := FC.out _ (h18.trans hD.1)
    go_simp; rfl
  simp only [Act.put, List.setIfInBounds_toArray, List.set_cons_succ, List.set_cons_zero, Nat.reduceAdd]
  refine wM_op _ rfl rfl (opens_call ?fzfalse_8_5 ?gzfalse_8_5 (fun w' hD => ?hzfalse_8_5) (fun w' hD => ?czfalse_8_5)) (fun v5 hv5 => ?nzfalse_8_5)
  case hzfalse_8_5 => go_simp; constructor <;> rfl
  case czfalse_8_5 =>
    refine (refevery_any _ c w' (HXX.out w' (h18.trans hD.1)) HWI.out.1 HWI.out.2).mono ?_
    rintro e w2 ⟨B, rfl, -, hB, hb⟩
    exact ⟨_, rfl, hb, B, rfl, hB.bools⟩
  obtain ⟨_, -, -, Be, rfl, -⟩ := hv5
  simp only [Act.put, List.setIfInBounds_toArray, List.set_cons_succ, List.set_cons_zero, Nat.reduceAdd]
  refine wM_op _ rfl rfl (opens_call ?fzfalse_8_6 ?gzfalse_8_6 (fun w' hD => ?hzfalse_8_6) (fun w' hD => ?czfalse_8_6)) (fun v6 hv6 => ?nzfalse_8_6)
  case hzfalse_8_6 => go_simp; constructor <;> rfl
  case czfalse_8_6 =>
    obtain ⟨-, B9, e9, hB9⟩ := hD.get 5 (by first | kernel_rfl | simp [Region.binds])
    cases e9
    have K := refclash_any _ c (some ⟨Be, 0, none⟩) c.wi.toNat (rl c.wi.toNat fun _ => true) w' (HXX.out w' (h18.trans hD.1)) HSZ.out H0.out hB9 (rl_len _ _)
    rw [rl_len, HCL.out] at K
    refine K.mono ?_
    rintro e w2 ⟨rfl, hb⟩
    exact ⟨_, rfl, hb, rfl⟩
  obtain ⟨_, -, -, rfl⟩ := hv6
  simp only [Act.put, List.setIfInBounds_toArray, List.set_cons_succ, List.set_cons_zero, Nat.reduceAdd]
  refine wM_val ?uzfalse_8_7 rfl rfl Ext.refl (fun w' hD => ?hzfalse_8_7) (fun phzfalse_8_7 => ?nzfalse_8_7)
  case hzfalse_8_7 =>
    obtain ⟨-, ⟨d0, d1, d2, d3⟩, -⟩ := FC.out _ (h18.trans hD.1)
    go_simp; rfl
  simp only [Act.put, List.setIfInBounds_toArray, List.set_cons_succ, List.set_cons_zero, Nat.reduceAdd]
  refine wM_nil ?_
  intro w19 hw19 hF9
  clear hF9
  have h19 := h18.trans hw19
  have T19 := T18.trans hw19
  have S19 := S18.trans hw19
  clear hw19
  have K := refminutes_any _ c (some ⟨Bt, 0, none⟩) N (truthL c) w19 (HXX.out w19 h19) HSZ.out (HIT.out w19 T19).1 HTS.out
  rw [HTM.out, HTL.out] at K
  have HK := hid K
  clear K
  obtain ⟨⟨a0, a1, a2, a3⟩, ⟨x0, x1, x2, x3⟩, q0, q1, q2, q3⟩ := FC.out w19 h19
  go_wp2_with fail
  clear a0 a1 a2 a3 x0 x1 x2 x3 q0 q1 q2 q3
  refine (HK.out).mono ?_
  rintro e w20 ⟨rfl, h⟩
  have h20 := h19.trans h
  have T20 := T19.trans h
  have S20 := S19.trans h
  clear h
  clear HK
  have K := refbroken_any _ c (some ⟨Bt, 0, none⟩) N (truthL c) w20 (HXX.out w20 h20) HSZ.out (HIT.out w20 T20).1 H0.out HTE.out HTR.out
  rw [HTB.out, HTL.out] at K
  simp only [List.length_nil] at K
  have HK := hid K
  clear K
  have ct := (HIT.out w20 T20).2
  obtain ⟨⟨a0, a1, a2, a3⟩, ⟨x0, x1, x2, x3⟩, q0, q1, q2, q3⟩ := FC.out w20 h20
  go_wp2_with fail
  clear a0 a1 a2 a3 x0 x1 x2 x3 q0 q1 q2 q3
  refine (HK.out).mono ?_
  rintro e w21 ⟨A14, k14, rfl, -, h⟩
  have h21 := h20.trans h
  have T21 := T20.trans h
  have S21 := S20.trans h
  clear h
  clear HK ct
  obtain ⟨⟨a0, a1, a2, a3⟩, ⟨x0, x1, x2, x3⟩, q0, q1, q2, q3⟩ := FC.out w21 h21
  go_wp2
  clear a0 a1 a2 a3 x0 x1 x2 x3 q0 q1 q2 q3
  refine wp_region_shut Ext (fun w' => Ext w21 w') (fun | 2 => some (fun v w' => ∃ B, v = .slice (some ⟨B, 0, none⟩) c.wi.toNat c.wi.toNat ∧ Bools w' (some ⟨B, 0, none⟩) (rl c.wi.toNat fun _ => true)) | 3 => some (fun v w' => ∃ g1 g2, v = .tuple #[.slice (some ⟨g1, 0, none⟩) N N, .slice (some ⟨g2, 0, none⟩) N N, .bool true] ∧ RV w' g1 N (fun j => .int .i64 (G.sm j)) ∧ RV w' g2 N (fun j => .bool (G.is j))) | _ => none) (by kernel_rfl) (by kernel_rfl) (fun _ _ h k => h.trans k) ?hG9 (Ext.drew (Ext.refl w21)) ?_
  case hG9 =>
    intro i R hR
    match i, hR with
    | 2, hR => cases hR; exact fun _ _ _ ⟨B, e, h⟩ k => ⟨B, e, h.ext k⟩
    | 3, hR => cases hR; exact fun _ _ _ ⟨g1, g2, e, h1, h2⟩ k => ⟨g1, g2, e, h1.ext k, h2.ext k⟩
  refine wM_val ?ug9_0 rfl rfl Ext.refl (fun w' hD => ?hg9_0) (fun phg9_0 => ?ng9_0)
  case hg9_0 =>
    obtain ⟨-, ⟨d0, d1, d2, d3⟩, -⟩ := FC.out _ (h21.trans hD.1)
    go_simp; rfl
  simp only [Act.put, List.setIfInBounds_toArray, List.set_cons_succ, List.set_cons_zero, Nat.reduceAdd]
  refine wM_val ?ug9_1 rfl rfl Ext.refl (fun w' hD => ?hg9_1) (fun phg9_1 => ?ng9_1)
  case hg9_1 =>
    obtain ⟨-, ⟨d0, d1, d2, d3⟩, -⟩ := FC.out _ (h21.trans hD.1)
    go_simp; rfl
  simp only [Act.put, List.setIfInBounds_toArray, List.set_cons_succ, List.set_cons_zero, Nat.reduceAdd]
  refine wM_op _ rfl rfl (opens_call ?fg9_2 ?gg9_2 (fun w' hD => ?hg9_2) (fun w' hD => ?cg9_2)) (fun v2 hv2 => ?ng9_2)
  case hg9_2 => go_simp; constructor <;> rfl
  case cg9_2 =>
    refine (refevery_any _ c w' (HXX.out w' (h21.trans hD.1)) HWI.out.1 HWI.out.2).mono ?_
    rintro e w2 ⟨B, rfl, -, hB, hb⟩
    exact ⟨_, rfl, hb, B, rfl, hB.bools⟩
  obtain ⟨_, -, -, Be2, rfl, -⟩ := hv2
  simp only [Act.put, List.setIfInBounds_toArray, List.set_cons_succ, List.set_cons_zero, Nat.reduceAdd]
  refine wM_op _ rfl rfl (opens_call ?fg9_3 ?gg9_3 (fun w' hD => ?hg9_3) (fun w' hD => ?cg9_3)) (fun v3 hv3 => ?ng9_3)
  case hg9_3 => go_simp; constructor <;> rfl
  case cg9_3 =>
    obtain ⟨-, B9, e9, hB9⟩ := hD.get 2 (by first | kernel_rfl | simp [Region.binds])
    cases e9
    have K := refgaps_any _ c (some ⟨Be2, 0, none⟩) c.wi.toNat (rl c.wi.toNat fun _ => true) 0 w' (HXX.out w' (h21.trans hD.1)) HSZ.out H0.out hB9 (rl_len _ _) HEV0.out
    rw [rl_len, HG.out, HNN.out] at K
    refine K.mono ?_
    rintro e w2 ⟨g1, g2, rfl, hI, hJ, hb, -, -⟩
    exact ⟨_, rfl, hb, g1, g2, rfl, hI, hJ⟩
  obtain ⟨_, -, -, g1, g2, rfl, -⟩ := hv3
  simp only [Act.put, List.setIfInBounds_toArray, List.set_cons_succ, List.set_cons_zero, Nat.reduceAdd]
  refine wM_val ?ug9_4 rfl rfl Ext.refl (fun w' hD => ?hg9_4) (fun phg9_4 => ?ng9_4)
  case hg9_4 =>
    obtain ⟨-, ⟨d0, d1, d2, d3⟩, -⟩ := FC.out _ (h21.trans hD.1)
    go_simp; rfl
  simp only [Act.put, List.setIfInBounds_toArray, List.set_cons_succ, List.set_cons_zero, Nat.reduceAdd]
  refine wM_val ?ug9_5 rfl rfl Ext.refl (fun w' hD => ?hg9_5) (fun phg9_5 => ?ng9_5)
  case hg9_5 =>
    obtain ⟨-, ⟨d0, d1, d2, d3⟩, -⟩ := FC.out _ (h21.trans hD.1)
    go_simp; rfl
  simp only [Act.put, List.setIfInBounds_toArray, List.set_cons_succ, List.set_cons_zero, Nat.reduceAdd]
  refine wM_val ?ug9_6 rfl rfl Ext.refl (fun w' hD => ?hg9_6) (fun phg9_6 => ?ng9_6)
  case hg9_6 =>
    obtain ⟨-, ⟨d0, d1, d2, d3⟩, -⟩ := FC.out _ (h21.trans hD.1)
    go_simp; rfl
  simp only [Act.put, List.setIfInBounds_toArray, List.set_cons_succ, List.set_cons_zero, Nat.reduceAdd]
  refine wM_val ?ug9_7 rfl rfl Ext.refl (fun w' hD => ?hg9_7) (fun phg9_7 => ?ng9_7)
  case hg9_7 =>
    obtain ⟨-, ⟨d0, d1, d2, d3⟩, -⟩ := FC.out _ (h21.trans hD.1)
    go_simp; rfl
  simp only [Act.put, List.setIfInBounds_toArray, List.set_cons_succ, List.set_cons_zero, Nat.reduceAdd]
  refine wM_val ?ug9_8 rfl rfl Ext.refl (fun w' hD => ?hg9_8) (fun phg9_8 => ?ng9_8)
  case hg9_8 =>
    obtain ⟨-, ⟨d0, d1, d2, d3⟩, -⟩ := FC.out _ (h21.trans hD.1)
    go_simp; rfl
  simp only [Act.put, List.setIfInBounds_toArray, List.set_cons_succ, List.set_cons_zero, Nat.reduceAdd]
  refine wM_val ?ug9_9 rfl rfl Ext.refl (fun w' hD => ?hg9_9) (fun phg9_9 => ?ng9_9)
  case hg9_9 =>
    obtain ⟨-, ⟨d0, d1, d2, d3⟩, -⟩ := FC.out _ (h21.trans hD.1)
    go_simp; rfl
  simp only [Act.put, List.setIfInBounds_toArray, List.set_cons_succ, List.set_cons_zero, Nat.reduceAdd]
  refine wM_val ?ug9_10 rfl rfl Ext.refl (fun w' hD => ?hg9_10) (fun phg9_10 => ?ng9_10)
  case hg9_10 =>
    obtain ⟨-, ⟨d0, d1, d2, d3⟩, -⟩ := FC.out _ (h21.trans hD.1)
    go_simp; rfl
  simp only [Act.put, List.setIfInBounds_toArray, List.set_cons_succ, List.set_cons_zero, Nat.reduceAdd]
  refine wM_nil ?_
  intro w22 hw22 hF9
  obtain ⟨-, g1', g2', e3, hI, hJ⟩ := hF9 3
  cases e3
  clear hF9
  have h22 := h21.trans hw22
  have T22 := T21.trans hw22
  have S22 := S21.trans hw22
  clear hw22
  have HGI : Hid (∀ w', Ext w22 w' → Ints w' (some ⟨g1, 0, none⟩) (rl N G.sm)) := fun w' h => hI.ints.ext h
  have HGJ : Hid (∀ w', Ext w22 w' → RV w' g2 N (fun j => .bool (G.is j))) := fun w' h => hJ.ext h
  have U22 : Ext w22 w22 := Ext.refl _
  clear hI hJ
  go_wp2
  go_loopw [8, 18, 22, 171] (fun s8 s18 _ i wr => ∃ kk : Nat, kk ≤ N ∧ i = .int .i64 (kk : Int) ∧ wr = w22 ∧ ((s8 = .int .i64 0 ∧ s18 = .slice (some ⟨g1, 0, none⟩) N N ∧ Hid (∀ j, j < kk → G.is j = true)) ∨ (s8 = .int .i64 6 ∧ s18 = .slice none 0 0 ∧ Hid (∃ j, j < N ∧ G.is j = false)))) (fun _ _ _ i _ => N - (intOf i).toNat)
  case atStart => exact ⟨0, Nat.zero_le _, rfl, rfl, .inl ⟨rfl, rfl, fun j hj => absurd hj (by omega)⟩⟩
  case round =>
    obtain ⟨kk, hk, rfl, hwr, hst⟩ := hrel
    by_cases hlt : kk < N
    · have hlt' : (kk : Int) < (N : Int) := by omega
      have cj : w22.cell? ⟨g2, kk, none⟩ = some (.bool (G.is kk)) := ((HGJ.out w22 (Ext.refl _)) kk hlt).1
      rcases hst with ⟨rfl, rfl, HQ⟩ | ⟨rfl, rfl, HQ⟩
      · cases hq : G.is kk
        · rw [hq] at cj
          have HQ2 : Hid (∃ j, j < N ∧ G.is j = false) := ⟨kk, hlt, hq⟩
          clear HQ
          go_wp2
          go_roundw
          case rel => exact ⟨kk + 1, by omega, by go_num, (by first | exact hwr | trivial), .inr ⟨rfl, rfl, HQ2⟩⟩
          case measure => simp [intOf]; omega
        · rw [hq] at cj
          have HQ2 : Hid (∀ j, j < kk + 1 → G.is j = true) := fun j hj => by
            by_cases e : j = kk
            · rw [e]; exact hq
            · exact HQ.out j (by omega)
          clear HQ
          go_wp2
          go_roundw
          case rel => exact ⟨kk + 1, by omega, by go_num, (by first | exact hwr | trivial), .inl ⟨rfl, rfl, HQ2⟩⟩
          case measure => simp [intOf]; omega
      · cases hq : G.is kk
        all_goals
          rw [hq] at cj
          clear hq
          go_wp2
          go_roundw
          case rel => exact ⟨kk + 1, by omega, by go_num, (by first | exact hwr | trivial), .inr ⟨rfl, rfl, HQ⟩⟩
          case measure => simp [intOf]; omega
    · have hlt' : ¬ (kk : Int) < (N : Int) := by omega
      subst hwr
      rcases hst with ⟨rfl, rfl, HQ⟩ | ⟨rfl, rfl, HQ⟩
      · have hLA := HLA.out (fun j hj => HQ.out j (by omega))
        obtain rfl : LC = 0 := HLC.out.symm.trans hLA.1
        obtain ⟨A15, k15, rfl, hI15⟩ := HR2.out rfl
        have HRL := hid hLA.2
        have HI15 := hid hI15
        clear hLA hI15 HR2 HR3 HQ
        have K := eq_int A15 (some ⟨g1, 0, none⟩) k15 N (rowG (gapsM allT c) N) (rl N G.sm) wr (HI15.out wr S22) (HGI.out wr (Ext.refl _)) (by rw [rowG_len]; omega) (by rw [rl_len]; omega)
        rw [HRL.out, beq_self_eq_true, rowG_len] at K
        have HK := hid K
        clear K
        obtain ⟨⟨a0, a1, a2, a3⟩, ⟨x0, x1, x2, x3⟩, q0, q1, q2, q3⟩ := FC.out wr h22
        go_wp2_with fail
        clear a0 a1 a2 a3 x0 x1 x2 x3 q0 q1 q2 q3
        refine HK.out.mono ?_
        rintro e w23 ⟨rfl, h⟩
        have h23 := h22.trans h
        clear h HK
        obtain ⟨⟨a0, a1, a2, a3⟩, ⟨x0, x1, x2, x3⟩, q0, q1, q2, q3⟩ := FC.out w23 h23
        go_wp2_with fail
        clear a0 a1 a2 a3 x0 x1 x2 x3 q0 q1 q2 q3
        refine (same_yes _ _ c w23 (HO.out w23 h23) (HV.out w23 h23) HSZ.out).mono ?_
        rintro e v1 ⟨rfl, h⟩
        have hh1 := h23.trans h
        clear h
        go_wp2_with fail
        refine (awake_any v1).mono ?_
        rintro e v2 ⟨rfl, h⟩
        go_wp2
        go_ret
        exact ⟨rfl, HXN.out.trans (hh1.trans h)⟩
      · obtain ⟨j, hj, hi⟩ := HQ.out
        obtain rfl : LC = 6 := HLC.out.symm.trans (HLB.out j hj hi)
        obtain rfl := HR3.out (by decide)
        clear HR2 HR3 HQ
        have K := eq_int none none 0 0 [] [] wr (Ints.nil _ _) (Ints.nil _ _) (by decide) (by decide)
        rw [beq_self_eq_true] at K
        simp only [List.length_nil] at K
        have HK := hid K
        clear K
        obtain ⟨⟨a0, a1, a2, a3⟩, ⟨x0, x1, x2, x3⟩, q0, q1, q2, q3⟩ := FC.out wr h22
        go_wp2_with fail
        clear a0 a1 a2 a3 x0 x1 x2 x3 q0 q1 q2 q3
        refine HK.out.mono ?_
        rintro e w23 ⟨rfl, h⟩
        have h23 := h22.trans h
        clear h HK
        obtain ⟨⟨a0, a1, a2, a3⟩, ⟨x0, x1, x2, x3⟩, q0, q1, q2, q3⟩ := FC.out w23 h23
        go_wp2_with fail
        clear a0 a1 a2 a3 x0 x1 x2 x3 q0 q1 q2 q3
        refine (same_yes _ _ c w23 (HO.out w23 h23) (HV.out w23 h23) HSZ.out).mono ?_
        rintro e v1 ⟨rfl, h⟩
        have hh1 := h23.trans h
        clear h
        go_wp2_with fail
        refine (awake_any v1).mono ?_
        rintro e v2 ⟨rfl, h⟩
        go_wp2
        go_ret
        exact ⟨rfl, HXN.out.trans (hh1.trans h)⟩
end Go.Proofs.Ytgnjhaomlbkgcaa

namespace Go.Proofs.Ytgnjhaomlbkgcaa
open Go.ChangeShapes Go.WideShapes Go.ChangeAt Go.RowKit
open Go.ChangeMaps (open_string shut_string)
set_option linter.unusedVariables false
set_option linter.unusedSimpArgs false

set_option maxRecDepth 100000 in
theorem truths_lifted (os : Os) (started : os.Started) (H : Type) (enc : TypeId × Value → H) :
    ReturnsInHanded {} Try.checked os 9 .any (Rows.warnTruthsSpec.pre6 enc Try.prog Try.f9 Rows.warnTruthsRow.domain false) (Rows.warnTruthsSpec.post enc Try.prog Try.f9 false true false false) := by
  refine returnsInHanded_of_change (C := Try.checked) lOwn started (by kernel_rfl) Try.func9
    (ChangeSpec.witness6 (enc := enc) (C := Try.checked) false ⟨#[], #[.agg #[.int .i64 0, .slice none 0 0, .int .i64 0, .slice none 0 0], .slice none 0 0], []⟩ 8 (by kernel_rfl) (by kernel_rfl) (by kernel_rfl) (by kernel_rfl)) ?_
  intro W base args ds gs before hval0 hW hcnd _
  have hval : ∀ (j : Nat) t v, Try.f9.params[j]? = some t → args[j]? = some v → Value.okWide Try.prog W .any base t v := hval0
  have hW' := hW
  obtain ⟨p, q, hA0, hV, rfl, hfz, hnd⟩ := hW
  have hA : DataW.TrodAll enc Try.prog W 0 (fun _ => true) true Try.f9.params.toList args.toList ds p := hA0
  rw [Try.params9] at hA hval
  obtain ⟨v0, vs0, d0, ds0, p0, q0, hargs, rfl, rfl, h0, r0⟩ := trodAll_cons hA
  obtain ⟨v1, vs1, d1, ds1, p1, q1, rfl, rfl, rfl, h1, r1⟩ := trodAll_cons r0
  obtain ⟨rfl, rfl, rfl⟩ := trodAll_nil r1
  obtain rfl : args = #[v0, v1] := by cases args; simp_all
  obtain ⟨rfl, rfl⟩ := trodVars_none hV
  have k0 := h0
  have lt0 : ∀ x ∈ p0, x.block < W.heap.size := by obtain ⟨m, hm⟩ := k0; exact DataW.trod_lt m _ _ _ hm
  obtain ⟨c, hC, hs⟩ := open_case (hval 0 26 v0 rfl rfl) h0
  obtain ⟨a3, len3, cap3, rfl⟩ := okWide_slice Try.underlying27 (hval 1 27 v1 rfl rfl)
  have k3 := h1
  have lt3 : ∀ x ∈ p1, x.block < W.heap.size := by obtain ⟨m, hm⟩ := k3; exact DataW.trod_lt m _ _ _ hm
  obtain ⟨l, hll, hI⟩ : ∃ l : List Int, l.length = len3 ∧ Ints W a3 l := by
    obtain ⟨fuel, hf⟩ := h1
    rcases open_ints Try.underlying27 Try.underlying3 (by kernel_rfl) hf with ⟨hcs, _⟩ | ⟨x, l, c, zs, hcs, _, hl, hm, hz, _, hcell, hwz⟩
    · simp [Value.cells] at hcs
      obtain ⟨rfl, rfl, rfl⟩ := hcs
      exact ⟨[], rfl, Ints.nil _ _⟩
    · simp [Value.cells] at hcs
      obtain ⟨rfl, rfl, rfl⟩ := hcs
      have hz2 : zs.length = cap3 := by simpa using hz
      refine ⟨zs.take len3, by simp; omega, rd_of_cells fun j u hu => ?_⟩
      rw [List.getElem?_map] at hu
      rcases hj : (zs.take len3)[j]? with _ | y
      · rw [hj] at hu; cases hu
      · rw [hj] at hu
        cases hu
        have hjl : j < zs.length := by have := (List.getElem?_eq_some_iff.1 hj).1; simp at this; omega
        have hjl2 : j < len3 := by have := (List.getElem?_eq_some_iff.1 hj).1; simp at this; omega
        rw [hcell j hjl]
        rw [List.getElem?_take, if_pos hjl2] at hj
        simp [List.getD_eq_getElem?_getD, hj]
  subst hll
  clear hA0 hval0
  refine (truw_any v0 c a3 cap3 l W hC hs hI).mono fun e W' ⟨he, bel⟩ => ?_
  subst he
  exact ⟨_, rfl, _, _, _, [], _, [], hW', trodAll_mk1 (shut_bool Try.underlying4 _), (trodAll_cons_mk (Below.trod lLaid (by kernel_rfl) (of_decide_eq_true (by kernel_rfl)) k0 bel lt0) (trodAll_cons_mk (Below.trod lLaid (by kernel_rfl) (of_decide_eq_true (by kernel_rfl)) k3 bel lt3) trodAll_mk0)), rfl, bel.frame _, fun h => by cases h⟩

theorem truths_over : Rows.warnTruthsRow.holds Try.pinned (OpenSpec.ofChange Rows.warnTruthsSpec) :=
  OpenClaim.holds_of_wide 9 Try.f9 rfl rfl rfl rfl rfl rfl rfl ⟨rfl, rfl, rfl, rfl, rfl⟩ rfl rfl rfl rfl rfl (by kernel_rfl) Try.func9 (by kernel_rfl)
    (of_decide_eq_true (by kernel_rfl)) (by unfold Func.isWrapper; first | (rw [if_pos (by decide +kernel)]; kernel_rfl) | (rw [if_neg (by decide +kernel)]; exact ⟨rfl, rfl⟩))
    (fun os started H enc _ => truths_lifted os started H enc)

theorem truths_holds : Rows.WarnTruthsSaid := truths_over
#print axioms truths_holds
end Go.Proofs.Ytgnjhaomlbkgcaa
