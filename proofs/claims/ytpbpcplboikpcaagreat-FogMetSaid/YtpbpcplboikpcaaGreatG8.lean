/- The plain side of FogChecks: what the program's Far and Hears answer, said with what the reference answers. The walks of the reference's CartError, MinuteError, LoudError, Everything, has and agrees. Printed by my gen_fref6.py. -/
import Derived.Test.YtpbpcplboikpcaaGreatG5
import Derived.Test.YtpbpcplboikpcaaGreatG7
import Derived.Test.YtpbpcplboikpcaaGreatG1
import Derived.BigQuiet
namespace Go.Proofs.YtpbpcplboikpcaaGreat
open Go Go.RowKit
set_option linter.unusedVariables false
set_option linter.unusedSimpArgs false

theorem plOK_iff {f : Fg} {n : Int} : plOK f n = true ↔ 0 ≤ n ∧ n < f.pl := by unfold plOK; rw [inB_iff]; omega
theorem blOK_iff {f : Fg} {n : Int} : blOK f n = true ↔ 0 ≤ n ∧ n < (f.bl.length : Int) := by unfold blOK; rw [inB_iff]; omega
theorem far_err {f : Fg} {T a b : Int} (h : checkF f = T) (hT : T ≠ 0) : farE f a b = T ∧ farV f a b = 0 := by
  have h1 : farE f a b = T := by unfold farE; rw [h, if_pos hT]
  exact ⟨h1, by unfold farV; rw [h1, if_neg hT]⟩
theorem far_off {f : Fg} {a b : Int} (h : checkF f = 0) (ho : ¬ (0 ≤ a ∧ a < f.pl ∧ 0 ≤ b ∧ b < f.pl)) : farE f a b = 1 ∧ farV f a b = 0 := by
  have h0 : (plOK f a && plOK f b) = false := by
    rw [Bool.eq_false_iff]
    intro h2
    rw [Bool.and_eq_true, plOK_iff, plOK_iff] at h2
    exact ho ⟨h2.1.1, h2.1.2, h2.2.1, h2.2.2⟩
  have h1 : farE f a b = 1 := by unfold farE; rw [h, h0]; simp
  exact ⟨h1, by unfold farV; rw [h1]; rfl⟩
theorem far_in {f : Fg} {a b : Nat} (h : checkF f = 0) (ha : a < f.pl.toNat) (hb : b < f.pl.toNat) : farE f a b = (if farM f a b = 100 then 6 else 0) := by
  have h0 : (plOK f a && plOK f b) = true := by
    rw [Bool.and_eq_true, plOK_iff, plOK_iff]
    exact ⟨⟨by omega, by omega⟩, by omega, by omega⟩
  unfold farE
  rw [h, h0]
  simp
theorem far_neg {f : Fg} {a b : Nat} (h : checkF f = 0) (ha : a < f.pl.toNat) (hb : b < f.pl.toNat) (hn : farR f a b < 0) : farE f a b = 6 ∧ farV f a b = 0 := by
  have hok := checkF_ok h
  have hp := hok.pl
  have hlo := (far_ok hok).dst.lo a b (by omega) (by omega)
  have hhi := (far_ok hok).dst.hi a b (by omega) (by omega)
  have e : farM f a b = 100 := by
    unfold farR at hn
    unfold noWay at hn hhi
    split at hn <;> omega
  have h1 : farE f a b = 6 := by rw [far_in h ha hb, if_pos e]
  exact ⟨h1, by unfold farV; rw [h1]; rfl⟩
theorem far_pos {f : Fg} {a b : Nat} (h : checkF f = 0) (ha : a < f.pl.toNat) (hb : b < f.pl.toNat) (hn : ¬ farR f a b < 0) : farE f a b = 0 ∧ farV f a b = farR f a b := by
  have e : farM f a b < 100 := by
    unfold farR at hn
    unfold noWay at hn
    split at hn <;> omega
  have h1 : farE f a b = 0 := by rw [far_in h ha hb, if_neg (by omega)]
  exact ⟨h1, by unfold farV farR noWay; rw [h1, if_pos rfl, if_pos e]; rfl⟩
theorem hears_err {f : Fg} {T b : Int} (h : checkF f = T) (hT : T ≠ 0) : hearsE f b = T ∧ hearsL f b = [] := by
  have h1 : hearsE f b = T := by unfold hearsE; rw [h, if_pos hT]
  exact ⟨h1, by unfold hearsL; rw [h1, if_neg hT]⟩
theorem hears_off {f : Fg} {b : Int} (h : checkF f = 0) (ho : ¬ (0 ≤ b ∧ b < (f.bl.length : Int))) : hearsE f b = 1 ∧ hearsL f b = [] := by
  have h0 : blOK f b = false := by
    rw [Bool.eq_false_iff]
    intro h2
    exact ho (blOK_iff.1 h2)
  have h1 : hearsE f b = 1 := by unfold hearsE; rw [h, h0]; simp
  exact ⟨h1, by unfold hearsL; rw [h1]; rfl⟩
theorem hearL_is {f : Fg} (h : FogOK f) {x : Bl} (hx : x ∈ f.bl) : (List.range f.pl.toNat).filter (heardM (farM f) x) = hearL f x f.pl.toNat := by
  unfold hearL
  apply List.filter_congr
  intro p hp
  rw [List.mem_range] at hp
  have hpl := h.pl
  have hb := h.bl x hx
  rw [hearR_is h (by omega) (by omega) hb.2.2.2]
  rfl
theorem hears_in {f : Fg} (h : checkF f = 0) {i : Nat} {x : Bl} (hx : f.bl[i]? = some x) : hearsE f i = 0 ∧ hearsL f i = natI (hearL f x f.pl.toNat) := by
  have hok := checkF_ok h
  have hi := (List.getElem?_eq_some_iff.1 hx).1
  have h0 : blOK f i = true := by rw [blOK_iff]; omega
  have h1 : hearsE f i = 0 := by unfold hearsE; rw [h, h0]; simp
  refine ⟨h1, ?_⟩
  unfold hearsL
  rw [h1, if_pos rfl, blAt_get (by simpa using hx), hearL_is hok (List.mem_of_getElem? hx)]
theorem hearsL_len {f : Fg} {b : Int} (h : checkF f = 0 → f.pl ≤ 8) : (hearsL f b).length ≤ 8 := by
  unfold hearsL
  by_cases h1 : hearsE f b = 0
  · rw [if_pos h1, natI_len]
    refine Nat.le_trans (List.length_filter_le _ _) ?_
    rw [List.length_range]
    by_cases hc : checkF f = 0
    · have := h hc; omega
    · exfalso; unfold hearsE at h1; rw [if_pos hc] at h1; exact hc h1
  · rw [if_neg h1]; simp
end Go.Proofs.YtpbpcplboikpcaaGreat

namespace Go.Proofs.YtpbpcplboikpcaaGreat
open Go Go.RowKit
set_option linter.unusedVariables false
set_option linter.unusedSimpArgs false

def cartX (f : Fg) (k : Int) : Int := if ctOK f k then 0 else 1
def minX (f : Fg) (m : Int) : Int := if miOK f m then 0 else 3
def loudX (n : Int) : Int := if inB n 0 7 then 0 else 3
set_option maxRecDepth 100000 in
set_option maxHeartbeats 1000000 in
theorem refcart_any (v : Value) (f : Fg) (d : List (List Int)) (k : Int) (w : World) (hf : RgR w v f d) (hs : f.sized) :
    Calls Tryz.prog 27 #[v, .int .i64 k] w fun e w' => e = .returned (.int .i64 (cartX f k)) ∧ Ext w w' := by
  obtain ⟨s, A4, c4, rfl, hr, hd⟩ := hf
  have hz := hs.ct
  obtain ⟨W0, hW0⟩ : ∃ W0, w.alloc (.cells #[.int .i64 f.pl, .int .i64 f.mi, .slice s.a1 f.tr.length s.c1, .slice s.a2 f.bl.length s.c2, .slice s.a3 f.ct.length s.c3, .slice A4 d.length c4] 37) = W0 := ⟨_, rfl⟩
  have hx0 : Ext w W0 := by rw [← hW0]; exact Ext.alloc (Ext.refl w) _
  have FX : Hid (∀ w', Ext W0 w' → w'.cell? ⟨w.heap.size, 4, none⟩ = some (.slice s.a3 f.ct.length s.c3)) := fun w' h => h.cell (by rw [← hW0]; simp [go_sem])
  unfold rval
  have q4 := FX.out W0 (Ext.refl _)
  go_enter Tryz.func27, Tryz.ntmps27
  go_wp2_with fail
  try rw [hW0]
  refine (off_any _ _ _ _).mono ?_
  rintro e w1 ⟨rfl, rfl⟩
  have H : Hid (cartX f k = if inB k 0 ((f.ct.length : Int) - 1) then 0 else 1) := rfl
  cases hq : inB k 0 ((f.ct.length : Int) - 1)
  · have H2 : Hid (cartX f k = 1) := by have h := H.out; rw [hq] at h; exact h
    clear H
    go_wp2
    go_ret
    exact ⟨ret_of (int_of H2.out.symm), hx0⟩
  · have H2 : Hid (cartX f k = 0) := by have h := H.out; rw [hq] at h; exact h
    clear H
    go_wp2
    go_ret
    exact ⟨ret_of (int_of H2.out.symm), hx0⟩
set_option maxRecDepth 100000 in
set_option maxHeartbeats 1000000 in
theorem refmin_any (v : Value) (f : Fg) (d : List (List Int)) (k : Int) (w : World) (hf : RgR w v f d) (hs : f.sized) :
    Calls Tryz.prog 34 #[v, .int .i64 k] w fun e w' => e = .returned (.int .i64 (minX f k)) ∧ Ext w w' := by
  obtain ⟨s, A4, c4, rfl, hr, hd⟩ := hf
  obtain ⟨W0, hW0⟩ : ∃ W0, w.alloc (.cells #[.int .i64 f.pl, .int .i64 f.mi, .slice s.a1 f.tr.length s.c1, .slice s.a2 f.bl.length s.c2, .slice s.a3 f.ct.length s.c3, .slice A4 d.length c4] 37) = W0 := ⟨_, rfl⟩
  have hx0 : Ext w W0 := by rw [← hW0]; exact Ext.alloc (Ext.refl w) _
  have FX : Hid (∀ w', Ext W0 w' → w'.cell? ⟨w.heap.size, 1, none⟩ = some (.int .i64 f.mi)) := fun w' h => h.cell (by rw [← hW0]; simp [go_sem])
  unfold rval
  have q1 := FX.out W0 (Ext.refl _)
  go_enter Tryz.func34, Tryz.ntmps34
  go_wp2_with fail
  try rw [hW0]
  refine (off_any _ _ _ _).mono ?_
  rintro e w1 ⟨rfl, rfl⟩
  have H : Hid (minX f k = if inB k 0 f.mi then 0 else 3) := rfl
  cases hq : inB k 0 f.mi
  · have H2 : Hid (minX f k = 3) := by have h := H.out; rw [hq] at h; exact h
    clear H
    go_wp2
    go_ret
    exact ⟨ret_of (int_of H2.out.symm), hx0⟩
  · have H2 : Hid (minX f k = 0) := by have h := H.out; rw [hq] at h; exact h
    clear H
    go_wp2
    go_ret
    exact ⟨ret_of (int_of H2.out.symm), hx0⟩
set_option maxRecDepth 100000 in
set_option maxHeartbeats 1000000 in
theorem refloud_any (k : Int) (w : World) :
    Calls Tryz.prog 35 #[.int .i64 k] w fun e w' => e = .returned (.int .i64 (loudX k)) ∧ Ext w w' := by
  go_enter Tryz.func35, Tryz.ntmps35
  go_wp2_with fail
  refine (off_any _ _ _ _).mono ?_
  rintro e w1 ⟨rfl, rfl⟩
  have H : Hid (loudX k = if inB k 0 7 then 0 else 3) := rfl
  cases hq : inB k 0 7
  · have H2 : Hid (loudX k = 3) := by have h := H.out; rw [hq] at h; exact h
    clear H
    go_wp2
    go_ret
    exact ⟨ret_of (int_of H2.out.symm), Ext.refl _⟩
  · have H2 : Hid (loudX k = 0) := by have h := H.out; rw [hq] at h; exact h
    clear H
    go_wp2
    go_ret
    exact ⟨ret_of (int_of H2.out.symm), Ext.refl _⟩

theorem pow_le8 {m : Nat} (h : m ≤ 8) : 2 ^ m ≤ 256 := by
  have := Nat.pow_le_pow_right (show 0 < 2 by omega) h
  omega
set_option maxRecDepth 100000 in
set_option maxHeartbeats 1000000 in
theorem refevery_any (v : Value) (f : Fg) (d : List (List Int)) (k : Nat) (c : Ct) (w : World) (hf : RgR w v f d) (hc : f.ct[k]? = some c) (h8 : c.rp.length ≤ 8) :
    Calls Tryz.prog 37 #[v, .int .i64 (k : Int)] w fun e w' => e = .returned (.int .i64 (everyN c : Nat)) ∧ Ext w w' := by
  obtain ⟨s, A4, c4, rfl, hr, hd⟩ := hf
  have hk := (List.getElem?_eq_some_iff.1 hc).1
  have hk' : (k : Int) < (f.ct.length : Int) := by omega
  obtain ⟨N, hN⟩ : ∃ N : Nat, everyN c = N := ⟨_, rfl⟩
  have HN := hid hN
  rw [hN]
  clear hN
  obtain ⟨W0, hW0⟩ : ∃ W0, w.alloc (.cells #[.int .i64 f.pl, .int .i64 f.mi, .slice s.a1 f.tr.length s.c1, .slice s.a2 f.bl.length s.c2, .slice s.a3 f.ct.length s.c3, .slice A4 d.length c4] 37) = W0 := ⟨_, rfl⟩
  have hx0 : Ext w W0 := by rw [← hW0]; exact Ext.alloc (Ext.refl w) _
  have FX : Hid (∀ w', Ext W0 w' → w'.cell? ⟨w.heap.size, 4, none⟩ = some (.slice s.a3 f.ct.length s.c3)) := fun w' h => h.cell (by rw [← hW0]; simp [go_sem])
  unfold rval
  obtain ⟨b0, o0, A5, k5, A6, k6, e1, g0, g1, hI, hR, -, -⟩ := (hr.ct.ext hx0).at_ hc
  have FY : Hid (∀ w', Ext W0 w' → w'.cell? ⟨w.heap.size, 4, none⟩ = some (.slice (some ⟨b0, o0, none⟩) f.ct.length s.c3) ∧ w'.cell? ⟨b0, o0 + k * 2 + 1, none⟩ = some (.slice A6 c.rp.length k6)) := fun w' h => ⟨by rw [FX.out w' h, e1], h.cell g1⟩
  clear hI hR hc FX e1 g0 g1
  go_enter Tryz.func37, Tryz.ntmps37
  go_wp2
  try rw [hW0]
  clear hW0
  go_loopw [6, 5] (fun i6 i5 wr => ∃ m P : Nat, m ≤ c.rp.length ∧ i6 = .int .i64 (m : Int) ∧ i5 = .int .i64 (P : Int) ∧ Hid (P = 2 ^ m) ∧ P ≤ 256 ∧ W0 = wr) (fun i _ _ => c.rp.length - (intOf i).toNat)
  case atStart => exact ⟨0, 1, Nat.zero_le _, rfl, rfl, rfl, by omega, rfl⟩
  case round =>
    obtain ⟨m, P, hm, rfl, rfl, HP, hP, rfl⟩ := hrel
    obtain ⟨d4, d5⟩ := FY.out W0 (Ext.refl _)
    by_cases hlt : m < c.rp.length
    · have hlt' : (m : Int) < (c.rp.length : Int) := by omega
      have HP2 : Hid (2 * P = 2 ^ (m + 1)) := by unfold Hid; rw [Nat.pow_succ, HP.out]; omega
      have hP2 : 2 * P ≤ 256 := by rw [HP2.out]; exact pow_le8 (by omega)
      go_wp2
      go_roundw
      case rel => exact ⟨m + 1, 2 * P, by omega, by go_num, by go_num, HP2, hP2, by first | rfl | trivial⟩
      case measure => simp [intOf]; omega
    · have hlt' : ¬ (m : Int) < (c.rp.length : Int) := by omega
      have hme : m = c.rp.length := by omega
      have hP0 : 0 < P := by rw [HP.out]; exact Nat.pow_pos (by omega)
      have HE : Hid ((N : Int) = (P : Int) - 1) := by
        unfold Hid
        rw [← HN.out]
        unfold everyN
        rw [← hme, ← HP.out]
        omega
      go_wp2
      go_ret
      exact ⟨ret_of (int_of HE.out.symm), hx0⟩
set_option maxRecDepth 100000 in
set_option maxHeartbeats 1000000 in
theorem refhas_any (A : Option Addr) (c : Nat) (l : List Int) (n : Int) (w : World) (hA : Ints w A l) (hl : l.length ≤ 1000000) :
    Calls Tryz.prog 133 #[.slice A l.length c, .int .i64 n] w fun e w' => e = .returned (.bool (memI n l)) ∧ w' = w := by
  obtain ⟨N, hN⟩ : ∃ N, memI n l = N := ⟨_, rfl⟩
  have HN := hid hN
  rw [hN]
  clear hN
  have HA := hid hA
  clear hA
  obtain ⟨W0, hW0⟩ : ∃ V : World, V = w := ⟨_, rfl⟩
  subst hW0
  go_enter Tryz.func133, Tryz.ntmps133
  go_wp2
  go_loopw [5] (fun i wr => ∃ k : Nat, k ≤ l.length ∧ i = .int .i64 (k : Int) ∧ W0 = wr ∧ Hid ((l.take k).any (fun y => n == y) = false)) (fun i _ => l.length - (intOf i).toNat)
  case atStart => exact ⟨0, Nat.zero_le _, rfl, rfl, rfl⟩
  case round =>
    obtain ⟨k, hk, rfl, rfl, HQ⟩ := hrel
    by_cases hlt : k < l.length
    · have hlt' : (k : Int) < (l.length : Int) := by omega
      obtain ⟨x, hxk⟩ := get_of_lt l k hlt
      obtain ⟨b1, o1, e1, g0⟩ := HA.out.at_ hxk
      have HX := hid hxk
      clear hxk
      subst e1
      by_cases hx : x = n
      · have bx : (x == n) = true := by simpa using hx
        have HN2 : Hid (N = true) := by
          unfold Hid
          rw [← HN.out]
          exact List.any_eq_true.2 ⟨x, mem_of_get HX.out, by simp [hx]⟩
        clear hx
        go_wp2
        go_ret
        exact ⟨ret_of (bool_of HN2.out.symm), rfl⟩
      · have bx : (x == n) = false := by simpa using hx
        have HQ2 : Hid ((l.take (k + 1)).any (fun y => n == y) = false) := by
          unfold Hid
          rw [take_next HX.out, List.any_append, HQ.out]
          simp
          exact fun e => hx e.symm
        clear hx HQ
        go_wp2
        go_roundw
        case rel => exact ⟨k + 1, by omega, by go_num, by first | rfl | trivial, HQ2⟩
        case measure => simp [intOf]; omega
    · have hlt' : ¬ (k : Int) < (l.length : Int) := by omega
      have H : Hid (N = false) := by
        unfold Hid
        have h := HQ.out
        rw [List.take_of_length_le (by omega)] at h
        rw [← HN.out]
        exact h
      clear HQ
      go_wp2
      go_ret
      exact ⟨ret_of (bool_of H.out.symm), rfl⟩

theorem heard_hearR {f : Fg} (h : FogOK f) {x : Bl} (hx : x ∈ f.bl) {p : Nat} (hp : p < f.pl.toNat) : hearR f x.pl.toNat x.lo p = heardM (farM f) x p := by
  have hb := h.bl x hx
  have hpl := h.pl
  rw [hearR_is h (by omega) (by omega) hb.2.2.2]
  rfl
set_option maxRecDepth 100000 in
set_option maxHeartbeats 2000000 in
theorem refagrees_any (v : Value) (f : Fg) (k : Nat) (c : Ct) (set m p : Nat) (w : World) (hf : RgR w v f (distL f)) (hok : FogOK f) (hc : f.ct[k]? = some c) (hset : set < 4096) (hp : p < f.pl.toNat) :
    Calls Tryz.prog 150 #[v, .int .i64 (k : Int), .int .i64 (set : Int), .int .i64 (m : Int), .int .i64 (p : Int)] w fun e w' => e = .returned (.bool (agC (farM f) f c (selS set) m p)) ∧ Ext w w' := by
  obtain ⟨s, A4, c4, rfl, hr, hd⟩ := hf
  have HOK := hid hok
  have hkl := (List.getElem?_eq_some_iff.1 hc).1
  have hkl' : (k : Int) < (f.ct.length : Int) := by omega
  have hcm := mem_of_get hc
  have h8 := hok.rn c hcm
  have HRP := hid (hok.rp c hcm)
  have HPP := hid hp
  clear hcm hok hp
  obtain ⟨N, hN⟩ : ∃ N, agC (farM f) f c (selS set) m p = N := ⟨_, rfl⟩
  have HN := hid hN
  rw [hN]
  clear hN
  obtain ⟨W0, hW0⟩ : ∃ W0, w.alloc (.cells #[.int .i64 f.pl, .int .i64 f.mi, .slice s.a1 f.tr.length s.c1, .slice s.a2 f.bl.length s.c2, .slice s.a3 f.ct.length s.c3, .slice A4 (distL f).length c4] 37) = W0 := ⟨_, rfl⟩
  have hx0 : Ext w W0 := by rw [← hW0]; exact Ext.alloc (Ext.refl w) _
  have FX : Hid (∀ w', Ext W0 w' → w'.cell? ⟨w.heap.size, 0, none⟩ = some (.int .i64 f.pl) ∧ w'.cell? ⟨w.heap.size, 1, none⟩ = some (.int .i64 f.mi) ∧ w'.cell? ⟨w.heap.size, 2, none⟩ = some (.slice s.a1 f.tr.length s.c1) ∧ w'.cell? ⟨w.heap.size, 3, none⟩ = some (.slice s.a2 f.bl.length s.c2) ∧ w'.cell? ⟨w.heap.size, 4, none⟩ = some (.slice s.a3 f.ct.length s.c3) ∧ w'.cell? ⟨w.heap.size, 5, none⟩ = some (.slice A4 (distL f).length c4)) := fun w' h => ⟨h.cell (by rw [← hW0]; simp [go_sem]), h.cell (by rw [← hW0]; simp [go_sem]), h.cell (by rw [← hW0]; simp [go_sem]), h.cell (by rw [← hW0]; simp [go_sem]), h.cell (by rw [← hW0]; simp [go_sem]), h.cell (by rw [← hW0]; simp [go_sem])⟩
  unfold rval
  obtain ⟨b0, o0, A5, k5, A6, k6, e1, g0, g1, hI, hR, -, -⟩ := (hr.ct.ext hx0).at_ hc
  obtain ⟨q0, q1, q2, q3, q4, q5⟩ := FX.out W0 (Ext.refl _)
  rw [e1] at q4
  have HR := hid hR
  clear hI hR hc e1 g0
  go_enter Tryz.func150, Tryz.ntmps150
  go_wp2
  try rw [hW0]
  clear hW0 q0 q1 q2 q3 q4 q5 g1
  go_loopw [12, 2] (fun i12 i2 wr => ∃ j S : Nat, j ≤ c.rp.length ∧ i12 = .int .i64 (j : Int) ∧ i2 = .int .i64 (S : Int) ∧ Hid (S = set / 2 ^ j) ∧ S < 4096 ∧ Hid (N = agL (farM f) f (selS set) m p j (c.rp.drop j)) ∧ Ext W0 wr) (fun i _ _ => c.rp.length - (intOf i).toNat)
  case atStart => exact ⟨0, set, Nat.zero_le _, rfl, rfl, by simp [Hid], hset, HN.out.symm, Ext.refl _⟩
  case round =>
    obtain ⟨j, S, hj, rfl, rfl, HS, hS, HG, hx⟩ := hrel
    by_cases hlt : j < c.rp.length
    · have hlt' : (j : Int) < (c.rp.length : Int) := by omega
      obtain ⟨y, hyj⟩ := get_of_lt c.rp j hlt
      have hyb := HRP.out y (mem_of_get hyj)
      obtain ⟨bn, hbn⟩ : ∃ bn : Nat, y.bl = bn := ⟨y.bl.toNat, by omega⟩
      obtain ⟨x, hxg⟩ := get_of_lt f.bl bn (by omega)
      have hxb := HOK.out.bl x (mem_of_get hxg)
      obtain ⟨PL, hPL⟩ : ∃ PL : Nat, x.pl = PL := ⟨x.pl.toNat, by omega⟩
      have HPL : Hid (PL < f.pl.toNat) := by unfold Hid; omega
      obtain ⟨YH, hYH⟩ : ∃ YH, y.hd = YH := ⟨_, rfl⟩
      have HBA : Hid (blAt f y.bl = x) := blAt_get (by rw [hbn]; simpa using hxg)
      have HHR : Hid (hearR f PL x.lo p = heardM (farM f) x p) := by
        have h := heard_hearR HOK.out (mem_of_get hxg) HPP.out
        rw [hPL, Int.toNat_natCast] at h
        exact h
      have HD := agL_drop (g := farM f) (f := f) (sel := selS set) (m := m) (p := p) hyj
      have HB : Hid (badR (farM f) f (selS set) m p j y = (decide (x.mi = (m : Int)) && (decide (S % 2 = 1) && (hearR f PL x.lo p != YH)))) := by
        unfold Hid badR
        rw [HBA.out, HHR.out, HS.out, Bool.and_assoc, hYH]
        rfl
      have HND : Hid (N = (!badR (farM f) f (selS set) m p j y && agL (farM f) f (selS set) m p (j + 1) (c.rp.drop (j + 1)))) := HG.out.trans HD
      obtain ⟨b5, o5, e5, h0, h1⟩ := Reps.at_ (Rows.ext HR.out hx) hyj
      rw [hYH] at h1
      obtain ⟨b6, o6, e6, u0, u1, u2⟩ := Blasts.at_ (Rows.ext hr.bl (hx0.trans hx)) hxg
      obtain ⟨q0, q1, q2, q3, q4, q5⟩ := FX.out wr hx
      subst e5
      rw [e6] at q3
      rw [hbn] at h0
      rw [hPL] at u1
      have hbn1 : (bn : Int) < (f.bl.length : Int) := by omega
      clear HD HG hyb hxb hyj hxg HBA HHR e6 hbn hPL hYH
      obtain ⟨V, hV⟩ : ∃ V, wr.alloc (.cells #[.int .i64 x.mi, .int .i64 (PL : Int), .int .i64 x.lo] 126) = V := ⟨_, rfl⟩
      have hxv : Ext wr V := by rw [← hV]; exact Ext.alloc (Ext.refl _) _
      have hrem : (S : Int).tmod 2 = (S : Int) % 2 := Int.tmod_eq_emod_of_nonneg (by omega)
      have hquo : (S : Int).tdiv 2 = (S : Int) / 2 := Int.tdiv_eq_ediv_of_nonneg (by omega)
      have h0a := fun o => (Ext.alloc (Ext.refl wr) o).cell h0
      have h1a := fun o => (Ext.alloc (Ext.refl wr) o).cell h1
      have u0a := fun o => (Ext.alloc (Ext.refl wr) o).cell u0
      have u1a := fun o => (Ext.alloc (Ext.refl wr) o).cell u1
      have u2a := fun o => (Ext.alloc (Ext.refl wr) o).cell u2
      have q3a := fun o => (Ext.alloc (Ext.refl wr) o).cell q3
      have FY : Hid (∀ w', Ext V w' → w'.cell? ⟨w.heap.size, 0, none⟩ = some (.int .i64 f.pl) ∧ w'.cell? ⟨w.heap.size, 1, none⟩ = some (.int .i64 f.mi) ∧ w'.cell? ⟨w.heap.size, 2, none⟩ = some (.slice s.a1 f.tr.length s.c1) ∧ w'.cell? ⟨w.heap.size, 3, none⟩ = some (.slice s.a2 f.bl.length s.c2) ∧ w'.cell? ⟨w.heap.size, 4, none⟩ = some (.slice s.a3 f.ct.length s.c3) ∧ w'.cell? ⟨w.heap.size, 5, none⟩ = some (.slice A4 (distL f).length c4) ∧ w'.cell? ⟨wr.heap.size, 0, none⟩ = some (.int .i64 x.mi) ∧ w'.cell? ⟨wr.heap.size, 1, none⟩ = some (.int .i64 (PL : Int)) ∧ w'.cell? ⟨wr.heap.size, 2, none⟩ = some (.int .i64 x.lo) ∧ w'.cell? ⟨b5, o5 + j * 2 + 1, none⟩ = some (.bool YH)) := fun w' h => by
        obtain ⟨t0, t1, t2, t3, t4, t5⟩ := FX.out w' (hx.trans (hxv.trans h))
        exact ⟨t0, t1, t2, t3, t4, t5, h.cell (by rw [← hV]; simp [go_sem]), h.cell (by rw [← hV]; simp [go_sem]), h.cell (by rw [← hV]; simp [go_sem]), (hxv.trans h).cell h1⟩
      have HXV : Hid (Ext w V) := hx0.trans (hx.trans hxv)
      have HXW : Hid (Ext W0 V) := hx.trans hxv
      clear hx hxv
      go_wp2_with fail
      go_region
      all_goals go_wp2
      all_goals try rw [hV]
      have hxd : Ext V V.drew := Ext.drew (Ext.refl V)
      obtain ⟨V1, hV1⟩ : ∃ V1, V.drew = V1 := ⟨_, rfl⟩
      rw [hV1] at hxd ⊢
      have HXV1 : Hid (Ext w V1) := HXV.out.trans hxd
      have HXW1 : Hid (Ext W0 V1) := HXW.out.trans hxd
      have FY1 : Hid (∀ w', Ext V1 w' → w'.cell? ⟨w.heap.size, 0, none⟩ = some (.int .i64 f.pl) ∧ w'.cell? ⟨w.heap.size, 1, none⟩ = some (.int .i64 f.mi) ∧ w'.cell? ⟨w.heap.size, 2, none⟩ = some (.slice s.a1 f.tr.length s.c1) ∧ w'.cell? ⟨w.heap.size, 3, none⟩ = some (.slice s.a2 f.bl.length s.c2) ∧ w'.cell? ⟨w.heap.size, 4, none⟩ = some (.slice s.a3 f.ct.length s.c3) ∧ w'.cell? ⟨w.heap.size, 5, none⟩ = some (.slice A4 (distL f).length c4) ∧ w'.cell? ⟨wr.heap.size, 0, none⟩ = some (.int .i64 x.mi) ∧ w'.cell? ⟨wr.heap.size, 1, none⟩ = some (.int .i64 (PL : Int)) ∧ w'.cell? ⟨wr.heap.size, 2, none⟩ = some (.int .i64 x.lo) ∧ w'.cell? ⟨b5, o5 + j * 2 + 1, none⟩ = some (.bool YH)) := fun w' h => FY.out w' (hxd.trans h)
      have HS2 : Hid (S / 2 = set / 2 ^ (j + 1)) := by unfold Hid; rw [HS.out, Nat.div_div_eq_div_mul, Nat.pow_succ]
      clear hV hV1 hxd FY HXV HXW h0 h1 h0a h1a u0 u1 u2 u0a u1a u2a q0 q1 q2 q3 q4 q5 q3a
      by_cases c1 : S % 2 = 1
      case neg =>
        have b1 : ((S : Int) % 2 == 1) = false := by simp; omega
        have HG2 : Hid (N = agL (farM f) f (selS set) m p (j + 1) (c.rp.drop (j + 1))) := by
          have h := HB.out
          rw [decide_eq_false c1, Bool.false_and, Bool.and_false] at h
          have h2 := HND.out
          rw [h] at h2
          exact h2
        clear HB HND c1
        obtain ⟨d0, d1, d2, d3, d4, d5, e0, e1, e2, r1⟩ := FY1.out V1 (Ext.refl _)
        go_quiet (fail)
        go_wp2
        go_roundw
        case rel => exact ⟨j + 1, S / 2, by omega, by go_num, by go_num, HS2, by omega, HG2, Ext.drewN HXW1.out _⟩
        case measure => simp [intOf]; omega
      have b1 : ((S : Int) % 2 == 1) = true := by simp; omega
      by_cases c2 : x.mi = (m : Int)
      case neg =>
        have b2 : (x.mi == (m : Int)) = false := by simpa using c2
        have HG2 : Hid (N = agL (farM f) f (selS set) m p (j + 1) (c.rp.drop (j + 1))) := by
          have h := HB.out
          rw [decide_eq_false c2, Bool.false_and] at h
          have h2 := HND.out
          rw [h] at h2
          exact h2
        clear HB HND c2
        obtain ⟨d0, d1, d2, d3, d4, d5, e0, e1, e2, r1⟩ := FY1.out V1 (Ext.refl _)
        go_quiet (fail)
        go_wp2
        go_roundw
        case rel => exact ⟨j + 1, S / 2, by omega, by go_num, by go_num, HS2, by omega, HG2, Ext.drewN HXW1.out _⟩
        case measure => simp [intOf]; omega
      have b2 : (x.mi == (m : Int)) = true := by simpa using c2
      obtain ⟨H, hH⟩ : ∃ H, hearR f PL x.lo p = H := ⟨_, rfl⟩
      have HH := hid hH
      rw [hH, decide_eq_true c1, decide_eq_true c2, Bool.true_and, Bool.true_and] at HB
      clear c1 c2 hH
      refine wp_region_shut Ext (fun w' => Ext V1 w') (fun
        | 16 => some (fun v _ => v = .bool H)
        | _ => none) (by kernel_rfl) (by kernel_rfl) (fun _ _ h k => h.trans k) ?hT (Ext.drew (Ext.refl V1)) ?_
      case hT =>
        intro i R hR
        match i, hR with
        | 16, hR => cases hR; exact fun _ _ _ h _ => h
      refine wM_val ?ua0 rfl rfl Ext.refl (fun w' hD => ?ha0) (fun pha0 => ?na0)
      case ha0 =>
        obtain ⟨d0, d1, d2, d3, d4, d5, e0, e1, e2, r1⟩ := FY1.out w' hD.1
        go_simp; rfl
      simp only [Act.put, List.setIfInBounds_toArray, List.set_cons_succ, List.set_cons_zero, Nat.reduceAdd]
      refine wM_val ?ua1 rfl rfl Ext.refl (fun w' hD => ?ha1) (fun pha1 => ?na1)
      case ha1 =>
        obtain ⟨d0, d1, d2, d3, d4, d5, e0, e1, e2, r1⟩ := FY1.out w' hD.1
        go_simp; rfl
      simp only [Act.put, List.setIfInBounds_toArray, List.set_cons_succ, List.set_cons_zero, Nat.reduceAdd]
      refine wM_val ?ua2 rfl rfl Ext.refl (fun w' hD => ?ha2) (fun pha2 => ?na2)
      case ha2 =>
        obtain ⟨d0, d1, d2, d3, d4, d5, e0, e1, e2, r1⟩ := FY1.out w' hD.1
        go_simp; rfl
      simp only [Act.put, List.setIfInBounds_toArray, List.set_cons_succ, List.set_cons_zero, Nat.reduceAdd]
      refine wM_val ?ua3 rfl rfl Ext.refl (fun w' hD => ?ha3) (fun pha3 => ?na3)
      case ha3 =>
        obtain ⟨d0, d1, d2, d3, d4, d5, e0, e1, e2, r1⟩ := FY1.out w' hD.1
        go_simp; rfl
      simp only [Act.put, List.setIfInBounds_toArray, List.set_cons_succ, List.set_cons_zero, Nat.reduceAdd]
      refine wM_val ?ua4 rfl rfl Ext.refl (fun w' hD => ?ha4) (fun pha4 => ?na4)
      case ha4 =>
        obtain ⟨d0, d1, d2, d3, d4, d5, e0, e1, e2, r1⟩ := FY1.out w' hD.1
        go_simp; rfl
      simp only [Act.put, List.setIfInBounds_toArray, List.set_cons_succ, List.set_cons_zero, Nat.reduceAdd]
      refine wM_val ?ua5 rfl rfl Ext.refl (fun w' hD => ?ha5) (fun pha5 => ?na5)
      case ha5 =>
        obtain ⟨d0, d1, d2, d3, d4, d5, e0, e1, e2, r1⟩ := FY1.out w' hD.1
        go_simp; rfl
      simp only [Act.put, List.setIfInBounds_toArray, List.set_cons_succ, List.set_cons_zero, Nat.reduceAdd]
      refine wM_val ?ua6 rfl rfl Ext.refl (fun w' hD => ?ha6) (fun pha6 => ?na6)
      case ha6 =>
        obtain ⟨d0, d1, d2, d3, d4, d5, e0, e1, e2, r1⟩ := FY1.out w' hD.1
        go_simp; rfl
      simp only [Act.put, List.setIfInBounds_toArray, List.set_cons_succ, List.set_cons_zero, Nat.reduceAdd]
      refine wM_val ?ua7 rfl rfl Ext.refl (fun w' hD => ?ha7) (fun pha7 => ?na7)
      case ha7 =>
        obtain ⟨d0, d1, d2, d3, d4, d5, e0, e1, e2, r1⟩ := FY1.out w' hD.1
        go_simp; rfl
      simp only [Act.put, List.setIfInBounds_toArray, List.set_cons_succ, List.set_cons_zero, Nat.reduceAdd]
      refine wM_val ?ua8 rfl rfl Ext.refl (fun w' hD => ?ha8) (fun pha8 => ?na8)
      case ha8 =>
        obtain ⟨d0, d1, d2, d3, d4, d5, e0, e1, e2, r1⟩ := FY1.out w' hD.1
        go_simp; rfl
      simp only [Act.put, List.setIfInBounds_toArray, List.set_cons_succ, List.set_cons_zero, Nat.reduceAdd]
      refine wM_val ?ua9 rfl rfl Ext.refl (fun w' hD => ?ha9) (fun pha9 => ?na9)
      case ha9 =>
        obtain ⟨d0, d1, d2, d3, d4, d5, e0, e1, e2, r1⟩ := FY1.out w' hD.1
        go_simp; rfl
      simp only [Act.put, List.setIfInBounds_toArray, List.set_cons_succ, List.set_cons_zero, Nat.reduceAdd]
      refine wM_val ?ua10 rfl rfl Ext.refl (fun w' hD => ?ha10) (fun pha10 => ?na10)
      case ha10 =>
        obtain ⟨d0, d1, d2, d3, d4, d5, e0, e1, e2, r1⟩ := FY1.out w' hD.1
        go_simp; rfl
      simp only [Act.put, List.setIfInBounds_toArray, List.set_cons_succ, List.set_cons_zero, Nat.reduceAdd]
      refine wM_val ?ua11 rfl rfl Ext.refl (fun w' hD => ?ha11) (fun pha11 => ?na11)
      case ha11 =>
        obtain ⟨d0, d1, d2, d3, d4, d5, e0, e1, e2, r1⟩ := FY1.out w' hD.1
        go_simp; rfl
      simp only [Act.put, List.setIfInBounds_toArray, List.set_cons_succ, List.set_cons_zero, Nat.reduceAdd]
      refine wM_val ?ua12 rfl rfl Ext.refl (fun w' hD => ?ha12) (fun pha12 => ?na12)
      case ha12 =>
        obtain ⟨d0, d1, d2, d3, d4, d5, e0, e1, e2, r1⟩ := FY1.out w' hD.1
        go_simp; rfl
      simp only [Act.put, List.setIfInBounds_toArray, List.set_cons_succ, List.set_cons_zero, Nat.reduceAdd]
      refine wM_val ?ua13 rfl rfl Ext.refl (fun w' hD => ?ha13) (fun pha13 => ?na13)
      case ha13 =>
        obtain ⟨d0, d1, d2, d3, d4, d5, e0, e1, e2, r1⟩ := FY1.out w' hD.1
        go_simp; rfl
      simp only [Act.put, List.setIfInBounds_toArray, List.set_cons_succ, List.set_cons_zero, Nat.reduceAdd]
      refine wM_val ?ua14 rfl rfl Ext.refl (fun w' hD => ?ha14) (fun pha14 => ?na14)
      case ha14 =>
        obtain ⟨d0, d1, d2, d3, d4, d5, e0, e1, e2, r1⟩ := FY1.out w' hD.1
        go_simp; rfl
      simp only [Act.put, List.setIfInBounds_toArray, List.set_cons_succ, List.set_cons_zero, Nat.reduceAdd]
      refine wM_val ?ua15 rfl rfl Ext.refl (fun w' hD => ?ha15) (fun pha15 => ?na15)
      case ha15 =>
        obtain ⟨d0, d1, d2, d3, d4, d5, e0, e1, e2, r1⟩ := FY1.out w' hD.1
        go_simp; rfl
      simp only [Act.put, List.setIfInBounds_toArray, List.set_cons_succ, List.set_cons_zero, Nat.reduceAdd]
      refine wM_op _ rfl rfl (opens_call ?fa16 ?ga16 (fun w' hD => ?ha16) (fun w' hD => ?ca16)) (fun v16 hv16 => ?na16)
      case ha16 => go_simp; constructor <;> rfl
      case ca16 =>
        refine (refhears_any (.agg #[.int .i64 f.pl, .int .i64 f.mi, .slice s.a1 f.tr.length s.c1, .slice s.a2 f.bl.length s.c2, .slice s.a3 f.ct.length s.c3, .slice A4 (distL f).length c4]) f PL p x.lo w' ⟨s, A4, c4, rfl, hr.ext (HXV1.out.trans hD.1), hd.ext (HXV1.out.trans hD.1)⟩ HOK.out HPL.out HPP.out).mono ?_
        rintro e w2 ⟨rfl, hb⟩
        exact ⟨_, rfl, hb, by rw [HH.out]⟩
      obtain ⟨_, -, -, rfl⟩ := hv16
      simp only [Act.put, List.setIfInBounds_toArray, List.set_cons_succ, List.set_cons_zero, Nat.reduceAdd]
      refine wM_val ?ua17 rfl rfl Ext.refl (fun w' hD => ?ha17) (fun pha17 => ?na17)
      case ha17 =>
        obtain ⟨d0, d1, d2, d3, d4, d5, e0, e1, e2, r1⟩ := FY1.out w' hD.1
        go_simp; rfl
      simp only [Act.put, List.setIfInBounds_toArray, List.set_cons_succ, List.set_cons_zero, Nat.reduceAdd]
      refine wM_val ?ua18 rfl rfl Ext.refl (fun w' hD => ?ha18) (fun pha18 => ?na18)
      case ha18 =>
        obtain ⟨d0, d1, d2, d3, d4, d5, e0, e1, e2, r1⟩ := FY1.out w' hD.1
        go_simp; rfl
      simp only [Act.put, List.setIfInBounds_toArray, List.set_cons_succ, List.set_cons_zero, Nat.reduceAdd]
      refine wM_val ?ua19 rfl rfl Ext.refl (fun w' hD => ?ha19) (fun pha19 => ?na19)
      case ha19 =>
        obtain ⟨d0, d1, d2, d3, d4, d5, e0, e1, e2, r1⟩ := FY1.out w' hD.1
        go_simp; rfl
      simp only [Act.put, List.setIfInBounds_toArray, List.set_cons_succ, List.set_cons_zero, Nat.reduceAdd]
      refine wM_val ?ua20 rfl rfl Ext.refl (fun w' hD => ?ha20) (fun pha20 => ?na20)
      case ha20 =>
        obtain ⟨d0, d1, d2, d3, d4, d5, e0, e1, e2, r1⟩ := FY1.out w' hD.1
        go_simp; rfl
      simp only [Act.put, List.setIfInBounds_toArray, List.set_cons_succ, List.set_cons_zero, Nat.reduceAdd]
      refine wM_val ?ua21 rfl rfl Ext.refl (fun w' hD => ?ha21) (fun pha21 => ?na21)
      case ha21 =>
        obtain ⟨d0, d1, d2, d3, d4, d5, e0, e1, e2, r1⟩ := FY1.out w' hD.1
        go_simp; rfl
      simp only [Act.put, List.setIfInBounds_toArray, List.set_cons_succ, List.set_cons_zero, Nat.reduceAdd]
      refine wM_val ?ua22 rfl rfl Ext.refl (fun w' hD => ?ha22) (fun pha22 => ?na22)
      case ha22 =>
        obtain ⟨d0, d1, d2, d3, d4, d5, e0, e1, e2, r1⟩ := FY1.out w' hD.1
        go_simp; rfl
      simp only [Act.put, List.setIfInBounds_toArray, List.set_cons_succ, List.set_cons_zero, Nat.reduceAdd]
      refine wM_val ?ua23 rfl rfl Ext.refl (fun w' hD => ?ha23) (fun pha23 => ?na23)
      case ha23 =>
        obtain ⟨d0, d1, d2, d3, d4, d5, e0, e1, e2, r1⟩ := FY1.out w' hD.1
        go_simp; rfl
      simp only [Act.put, List.setIfInBounds_toArray, List.set_cons_succ, List.set_cons_zero, Nat.reduceAdd]
      refine wM_nil ?_
      intro w9 hw9 hF9
      clear hF9
      have HX9 : Hid (Ext W0 w9) := HXW1.out.trans hw9
      have hx9 : Ext w w9 := HXV1.out.trans hw9
      cases H
      · cases YH
        case false =>
          have HG2 : Hid (N = agL (farM f) f (selS set) m p (j + 1) (c.rp.drop (j + 1))) := by
            have h := HND.out
            rw [HB.out] at h
            exact h
          clear HB HND
          go_wp2
          go_roundw
          case rel => exact ⟨j + 1, S / 2, by omega, by go_num, by go_num, HS2, by omega, HG2, HX9.out⟩
          case measure => simp [intOf]; omega
        case true =>
          have HN2 : Hid (N = false) := by
            have h := HND.out
            rw [HB.out] at h
            exact h
          clear HB HND
          go_wp2
          go_ret
          exact ⟨ret_of (bool_of HN2.out.symm), hx9⟩
      · cases YH
        case false =>
          have HN2 : Hid (N = false) := by
            have h := HND.out
            rw [HB.out] at h
            exact h
          clear HB HND
          go_wp2
          go_ret
          exact ⟨ret_of (bool_of HN2.out.symm), hx9⟩
        case true =>
          have HG2 : Hid (N = agL (farM f) f (selS set) m p (j + 1) (c.rp.drop (j + 1))) := by
            have h := HND.out
            rw [HB.out] at h
            exact h
          clear HB HND
          go_wp2
          go_roundw
          case rel => exact ⟨j + 1, S / 2, by omega, by go_num, by go_num, HS2, by omega, HG2, HX9.out⟩
          case measure => simp [intOf]; omega
    · have hlt' : ¬ (j : Int) < (c.rp.length : Int) := by omega
      have HN2 : Hid (N = true) := HG.out.trans (agL_end (by omega) j)
      have hx9 := hx0.trans hx
      clear HG
      go_wp2
      go_ret
      exact ⟨ret_of (bool_of HN2.out.symm), hx9⟩
end Go.Proofs.YtpbpcplboikpcaaGreat
