/- slices.ContainsFunc over rows of numbers, and FogStill's function values. Printed by my gen_fconl.py. -/
import Derived.Test.YtpbpcplboikpcaaGreatG4
import Derived.Test.YtpbpcplboikpcaaGreatG5
namespace Go.Proofs.YtpbpcplboikpcaaGreat
open Go Go.RowKit Go.Shelf
set_option linter.unusedVariables false
set_option linter.unusedSimpArgs false

set_option maxHeartbeats 1000000 in
theorem indexFunc_rows (A : Option Addr) (c : Nat) (l : List (List Int)) (fv : Value) (S : List Int → Prop) (p : List Int → Bool) (w : World) (hA : IntRows w A l) (hl : l.length ≤ 9223372036854775807)
    (hS : ∀ x, x ∈ l → S x) (hp : FnP Tryz.prog fv w IntsR S p) :
    Calls Tryz.prog 161 #[.slice A l.length c, fv] w fun e w' => e = .returned (.int .i64 (idxF p l 0)) ∧ Ext w w' := by
  obtain ⟨g, fst, lb, rfl, eg, hcall⟩ := hp
  have HC := hid hcall
  have HS := hid hS
  clear hcall hS
  have HF : Hid (idxF p l 0 = idxF p (l.drop 0) 0) := rfl
  generalize hF : idxF p l 0 = F at HF ⊢
  clear hF
  go_enter Tryz.func161, Tryz.ntmps161
  go_wp2
  go_loopg [5, 8] l.length (fun gg _ s8 wr => ∃ kk : Nat, kk ≤ l.length ∧ l.length - kk ≤ gg ∧ s8 = .int .i64 kk ∧ Ext w wr ∧ Hid (F = idxF p (l.drop kk) kk))
  case atStart => exact ⟨0, Nat.zero_le _, by omega, rfl, Ext.refl w, HF⟩
  case round =>
    obtain ⟨kk, h1, h2, rfl, hx0, HF⟩ := hrel
    by_cases hlt : kk < l.length
    · have hlt' : (kk : Int) < (l.length : Int) := by omega
      obtain ⟨x, hx⟩ := get_of_lt l kk hlt
      have hA := hA.ext hx0
      obtain ⟨b, off, A', k', rfl, c0, hI, hk⟩ := hA.at_ hx
      have HX := hid hx
      clear hx
      go_wp2_with fail
      refine (HC.out x _ wr (HS.out x (mem_of_get HX.out)) hx0.kc ⟨A', k', rfl, hI, hk⟩).mono ?_
      have HD := idxF_drop p l kk x HX.out
      cases hq : p x
      · rw [hq] at HD
        have HD := hid HD
        rintro e w1 ⟨rfl, hb1⟩
        go_wp2
        go_roundg (l.length - (kk + 1))
        case measure => omega
        case rel => exact ⟨kk + 1, by omega, by omega, by go_num, hx0.trans hb1, HF.out.trans (by rw [HD.out]; rfl)⟩
      · rw [hq] at HD
        have HD := hid HD
        rintro e w1 ⟨rfl, hb1⟩
        go_wp2
        go_ret
        exact ⟨ret_of (int_of (by rw [HF.out, HD.out]; rfl)), hx0.trans hb1⟩
    · have hlt' : ¬ (kk : Int) < (l.length : Int) := by omega
      go_wp2
      go_ret
      exact ⟨ret_of (int_of (by rw [HF.out, idxF_end p l kk (by omega)])), hx0⟩

set_option maxHeartbeats 400000 in
theorem containsFunc_rows (A : Option Addr) (c : Nat) (l : List (List Int)) (fv : Value) (S : List Int → Prop) (p : List Int → Bool) (w : World) (hA : IntRows w A l) (hl : l.length ≤ 9223372036854775807)
    (hS : ∀ x, x ∈ l → S x) (hp : FnP Tryz.prog fv w IntsR S p) :
    Calls Tryz.prog 71 #[.slice A l.length c, fv] w fun e w' => e = .returned (.bool (l.any p)) ∧ Ext w w' := by
  have H := hid (idxF_nonneg p l 0)
  have HS := hid hS
  clear hS
  go_enter Tryz.func71, Tryz.ntmps71
  go_wp2_with fail
  refine (indexFunc_rows A c l fv S p _ hA hl HS.out hp).mono ?_
  rintro e w1 ⟨rfl, hb1⟩
  go_wp2
  go_ret
  exact ⟨ret_of (bool_of (by rw [← H.out])), hb1⟩

theorem lstl1_fn (w : World) (Bx : Nat) (A : Option Addr) (k : Nat) (l : List Int) (hl : l.length ≤ 9223372036854775807) (hc : w.cell? ⟨Bx, 0, none⟩ = some (.slice A l.length k)) (hI : Ints w A l) :
    FnP Tryz.prog (.func (.func 69) #[] #[.pointer (some ⟨Bx, 0, none⟩)]) w IntR anyx (fun x => !memI x l) := by
  refine ⟨_, _, _, rfl, enters_of Tryz.func69 (by kernel_rfl) rfl, fun x v W hs hW hR => ?_⟩
  obtain rfl : v = .int .i64 x := hR
  have h2 := hW.cell hc
  have hK := hid (containsI_any x A k l W (hI.kc hW) hl)
  clear hI hW hs hc
  show Calls _ _ #[_, _] _ _
  go_enter Tryz.func69, Tryz.ntmps69
  go_wp2_with fail
  refine hK.out.mono ?_
  rintro e w1 ⟨rfl, rfl⟩
  go_wp2
  go_ret
  exact ⟨rfl, Ext.refl _⟩
theorem lstl2_fn (w : World) (Bx : Nat) (A : Option Addr) (k : Nat) (l : List Int) (hl : l.length ≤ 9223372036854775807) (hc : w.cell? ⟨Bx, 0, none⟩ = some (.slice A l.length k)) (hI : Ints w A l) :
    FnP Tryz.prog (.func (.func 72) #[] #[.pointer (some ⟨Bx, 0, none⟩)]) w IntsR (fun x => x.length ≤ 1000) (fun x => x == l) := by
  refine ⟨_, _, _, rfl, enters_of Tryz.func72 (by kernel_rfl) rfl, fun x v W hs hW hR => ?_⟩
  obtain ⟨A', k', rfl, hI2, -⟩ := hR
  have h2 := hW.cell hc
  have hK := hid (equal_int A' A k' k x l W hI2 (hI.kc hW) (by dsimp only at hs; omega) hl)
  clear hI hW hs hc hI2
  show Calls _ _ #[_, _] _ _
  go_enter Tryz.func72, Tryz.ntmps72
  go_wp2_with fail
  refine hK.out.mono ?_
  rintro e w1 ⟨rfl, hx⟩
  go_wp2
  go_ret
  exact ⟨rfl, hx⟩
end Go.Proofs.YtpbpcplboikpcaaGreat
