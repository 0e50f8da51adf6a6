/- The walk of holds: whether minutes are a truth of some bounds. -/
import Derived.Test.YtgnjhaomlbkgcaaWSlices
import Derived.Test.YtgnjhaomlbkgcaaWAll
import Derived.Test.YtgnjhaomlbkgcaaWDesk
namespace Go.Proofs.Ytgnjhaomlbkgcaa
open Go Go.RowKit Go.Shelf
set_option linter.unusedVariables false
set_option linter.unusedSimpArgs false

def bdHolds (l : List Int) (b : Bd) : Bool := decide (l.getD b.t.toNat 0 ≤ l.getD b.f.toNat 0 + b.m)
def bdIn (n : Nat) (b : Bd) : Prop := (0 ≤ b.f ∧ b.f < (n : Int)) ∧ (0 ≤ b.t ∧ b.t < (n : Int)) ∧ -2000 ≤ b.m ∧ b.m ≤ 2000

set_option maxRecDepth 100000 in
set_option maxHeartbeats 2000000 in
theorem holds1_fn (w : World) (B : Nat) (A : Option Addr) (k : Nat) (l : List Int) (hB : w.cell? ⟨B, 0, none⟩ = some (.slice A l.length k)) (hA : Ints w A l) (hl : ∀ x ∈ l, -1000000 ≤ x ∧ x ≤ 1000000) :
    FnP Try.prog (.func (.func 91) #[] #[.pointer (some ⟨B, 0, none⟩)]) w BdR (bdIn l.length) (fun b => !bdHolds l b) := by
  refine ⟨_, _, _, rfl, enters_of Try.func91 (by kernel_rfl) rfl, fun x v2 W hs hW hR => ?_⟩
  obtain rfl : v2 = x.val := hR
  obtain ⟨f, t, m⟩ := x
  obtain ⟨⟨f0, f1⟩, ⟨t0, t1⟩, m0, m1⟩ := hs
  simp only at f0 f1 t0 t1 m0 m1
  obtain ⟨fn, rfl⟩ : ∃ k : Nat, f = k := ⟨f.toNat, by omega⟩
  obtain ⟨tn, rfl⟩ : ∃ k : Nat, t = k := ⟨t.toNat, by omega⟩
  obtain ⟨x, hx⟩ := get_of_lt l fn (by omega)
  obtain ⟨y, hy⟩ := get_of_lt l tn (by omega)
  have bx := hl x (mem_of_get hx)
  have by_ := hl y (mem_of_get hy)
  have H : Hid ((!bdHolds l ⟨(fn : Int), (tn : Int), m⟩) = decide (y > x + m)) := by
    unfold Hid bdHolds
    simp only [Int.toNat_natCast, List.getD_eq_getElem?_getD, hx, hy, Option.getD_some]
    rw [← decide_not]
    congr 1
    exact propext ⟨fun h => by omega, fun h => by omega⟩
  have hxa : Ext W (W.alloc (.cells #[.int .i64 (fn : Int), .int .i64 (tn : Int), .int .i64 m] 35)) := Ext.alloc (Ext.refl W) _
  obtain ⟨b1, o1, rfl, cx⟩ := ((hA.kc hW).ext hxa).at_ hx
  obtain ⟨b2, o2, e2, cy⟩ := ((hA.kc hW).ext hxa).at_ hy
  cases e2
  have cB := hxa.cell (hW.cell hB)
  have hsum : IntKind.i64.wrap (x + m) = x + m := IntWalk.i64_in _ ⟨by omega, by omega⟩
  clear hA hB hx hy hl
  unfold Bd.val
  show Calls _ _ #[_, _] _ _
  go_enter Try.func91, Try.ntmps91
  go_wp2
  go_quiet (fail)
  go_wp2
  go_ret
  exact ⟨ret_of (bool_of H.out.symm), Ext.drewN hxa _⟩

set_option maxRecDepth 100000 in
set_option maxHeartbeats 1000000 in
theorem holds_any (A : Option Addr) (k0 : Nat) (L : List Bd) (A2 : Option Addr) (k2 : Nat) (l : List Int) (w : World) (hA : Bounds w A L) (hR : Ints w A2 l) (hl : L.length ≤ 1000000) (hL : ∀ b ∈ L, bdIn l.length b) (hm : ∀ x ∈ l, -1000000 ≤ x ∧ x ≤ 1000000) :
    Calls Try.prog 26 #[.slice A L.length k0, .slice A2 l.length k2] w fun e w' => e = .returned (.bool (L.all (bdHolds l))) ∧ Ext w w' := by
  have hxa : Ext w (w.alloc (.cells #[.slice A2 l.length k2] 27)) := Ext.alloc (Ext.refl w) _
  have hf := holds1_fn (w.alloc (.cells #[.slice A2 l.length k2] 27)) w.heap.size A2 k2 l (by simp [go_sem]) (hR.ext hxa) hm
  have HL := hid hL
  have HA : Hid (L.all (bdHolds l) = !(L.any fun b => !bdHolds l b)) := all_any _ _
  clear hL hm
  go_enter Try.func26, Try.ntmps26
  go_wp2_with fail
  refine (containsFunc_bound A k0 L _ (bdIn l.length) (fun b => !bdHolds l b) _ (hA.ext hxa) (by omega) HL.out hf).mono ?_
  rintro e w1 ⟨rfl, hx1⟩
  go_wp2
  go_ret
  exact ⟨ret_of (bool_of HA.out.symm), hxa.trans hx1⟩
end Go.Proofs.Ytgnjhaomlbkgcaa
