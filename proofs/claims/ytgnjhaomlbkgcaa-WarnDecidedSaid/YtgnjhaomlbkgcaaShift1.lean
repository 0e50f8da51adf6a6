/- WarnShifted's changes of a bound: all later, and backwards. -/
import Derived.Test.YtgnjhaomlbkgcaaWMadeP
import Derived.Test.YtgnjhaomlbkgcaaProg
import Derived.Test.YtgnjhaomlbkgcaaWMade
namespace Go.Proofs.Ytgnjhaomlbkgcaa
open Go Go.RowKit Go.Shelf
set_option linter.unusedVariables false
set_option linter.unusedSimpArgs false

/-- A function value that turns bounds into others. -/
def MapB (P : Program) (fv : Value) (w : World) (S : Bd → Prop) (f : Bd → Bd) : Prop :=
  ∃ (g : Nat) (fst lb : Array Value), fv = .func (.func g) fst lb ∧ (∀ args W, (callFunc g args).run P W = .ok (.enter g args) W) ∧
    ∀ (x : Bd) (W : World), S x → Kc w W → Calls P g (fst.push x.val ++ lb) W fun e W' => e = .returned (f x).val ∧ Ext W W'
theorem MapB.kc {P : Program} {fv : Value} {w w' : World} {S : Bd → Prop} {f : Bd → Bd} (h : MapB P fv w S f) (hx : Kc w w') : MapB P fv w' S f := by
  obtain ⟨g, fst, lb, rfl, he, hc⟩ := h
  exact ⟨g, fst, lb, rfl, he, fun x W hs hW => hc x W hs (hx.trans hW)⟩

set_option maxHeartbeats 1000000 in
theorem later_any (Bb : Nat) (by_ : Int) (b : Bd) (w : World) (hb : w.cell? ⟨Bb, 0, none⟩ = some (.int .u8 by_)) (h0 : 0 ≤ by_) (h1 : by_ ≤ 255) (m1 : -2000 ≤ b.m) (m2 : b.m ≤ 2000) :
    Calls Try.prog 18 #[b.val, .pointer (some ⟨Bb, 0, none⟩)] w fun e w' => e = .returned (laterB by_ b).val ∧ Ext w w' := by
  obtain ⟨f, t, m⟩ := b
  simp only at m1 m2
  have qb := fun o o' => (Ext.alloc (Ext.alloc (Ext.refl w) o) o').cell hb
  obtain ⟨R, hR⟩ : ∃ R, laterB by_ ⟨f, t, m⟩ = R := ⟨_, rfl⟩
  have HR := hid hR
  rw [hR]
  clear hR
  unfold Bd.val
  by_cases hf : f = 0
  · have hq : (f == 0) = true := by simpa using hf
    have HV : Hid (R = ⟨f, t, m + by_⟩) := by unfold Hid; rw [← HR.out]; unfold laterB; rw [if_pos (show (⟨f, t, m⟩ : Bd).f = 0 from hf)]
    clear hf
    go_enter Try.func18, Try.ntmps18
    go_wp2
    refine bodyPost_ret (v := .agg #[.int .i64 f, .int .i64 t, .int .i64 (m + by_)]) ?_ rfl ⟨by rw [HV.out], Ext.alloc (Ext.alloc (Ext.refl w) _) _⟩
    simp [results, Try.results18, go_sem]
  · by_cases ht : t = 0
    · have hq : (f == 0) = false := by simpa using hf
      have hq2 : (t == 0) = true := by simpa using ht
      have HV : Hid (R = ⟨f, t, m - by_⟩) := by unfold Hid; rw [← HR.out]; unfold laterB; rw [if_neg (show ¬ (⟨f, t, m⟩ : Bd).f = 0 from hf), if_pos (show (⟨f, t, m⟩ : Bd).t = 0 from ht)]
      clear hf ht
      go_enter Try.func18, Try.ntmps18
      go_wp2
      refine bodyPost_ret (v := .agg #[.int .i64 f, .int .i64 t, .int .i64 (m - by_)]) ?_ rfl ⟨by rw [HV.out], Ext.alloc (Ext.alloc (Ext.refl w) _) _⟩
      simp [results, Try.results18, go_sem]
    · have hq : (f == 0) = false := by simpa using hf
      have hq2 : (t == 0) = false := by simpa using ht
      have HV : Hid (R = ⟨f, t, m⟩) := by unfold Hid; rw [← HR.out]; unfold laterB; rw [if_neg (show ¬ (⟨f, t, m⟩ : Bd).f = 0 from hf), if_neg (show ¬ (⟨f, t, m⟩ : Bd).t = 0 from ht)]
      clear hf ht
      go_enter Try.func18, Try.ntmps18
      go_wp2
      refine bodyPost_ret (v := .agg #[.int .i64 f, .int .i64 t, .int .i64 m]) ?_ rfl ⟨by rw [HV.out], Ext.alloc (Ext.alloc (Ext.refl w) _) _⟩
      simp [results, Try.results18, go_sem]
theorem later_map (Bb : Nat) (by_ : Int) (w : World) (hb : w.cell? ⟨Bb, 0, none⟩ = some (.int .u8 by_)) (h0 : 0 ≤ by_) (h1 : by_ ≤ 255) :
    MapB Try.prog (.func (.func 18) #[] #[.pointer (some ⟨Bb, 0, none⟩)]) w (fun b => -2000 ≤ b.m ∧ b.m ≤ 2000) (laterB by_) :=
  ⟨_, _, _, rfl, enters_of Try.func18 (by kernel_rfl) rfl, fun x W hs hW => later_any Bb by_ x W (hW _ _ hb) h0 h1 hs.1 hs.2⟩

theorem back_any (b : Bd) (w : World) :
    Calls Try.prog 19 #[b.val] w fun e w' => e = .returned (backB b).val ∧ Ext w w' := by
  obtain ⟨f, t, m⟩ := b
  show Calls _ _ #[.agg #[.int .i64 f, .int .i64 t, .int .i64 m]] w fun e w' => e = .returned (.agg #[.int .i64 t, .int .i64 f, .int .i64 m]) ∧ Ext w w'
  go_enter Try.func19, Try.ntmps19
  go_wp2
  refine bodyPost_ret (v := .agg #[.int .i64 t, .int .i64 f, .int .i64 m]) ?_ rfl ⟨rfl, Ext.alloc (Ext.alloc (Ext.refl w) _) _⟩
  simp [results, Try.results19, go_sem]
theorem back_map (w : World) : MapB Try.prog (.func (.func 19) #[] #[]) w (fun b => -2000 ≤ b.m ∧ b.m ≤ 2000) backB :=
  ⟨_, _, _, rfl, enters_of Try.func19 (by kernel_rfl) rfl, fun x W _ _ => back_any x W⟩
end Go.Proofs.Ytgnjhaomlbkgcaa
