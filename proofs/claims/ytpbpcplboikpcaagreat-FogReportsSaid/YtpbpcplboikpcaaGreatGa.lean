/- The one place whose blast leaves the fewest places. No program stands here. The walk of fog.Ask. Printed by my gen_fask.py. The walk of fog.Apart. Printed by my gen_fapart.py. The walks of the reference's members, ahead and choice. Printed by my gen_fmem.py. The walks of the reference's Ask and Apart. Printed by my gen_fref10.py. -/
import Derived.Test.YtpbpcplboikpcaaGreatG4
import Derived.Test.YtpbpcplboikpcaaGreatG1
import Derived.Test.YtpbpcplboikpcaaGreatG5
import Derived.BigQuiet
import Derived.Test.YtpbpcplboikpcaaGreatG8
namespace Go.Proofs.YtpbpcplboikpcaaGreat
open Go Go.RowKit
set_option linter.unusedVariables false
set_option linter.unusedSimpArgs false

/-- How many of some places hear a blast. -/
def yesM (h : Int → Bool) (l : List Int) : Int := ((l.filter h).length : Int)
theorem yes_next {h : Int → Bool} {l : List Int} {j : Nat} {x : Int} (hx : l[j]? = some x) : yesM h (l.take (j + 1)) = yesM h (l.take j) + if h x then 1 else 0 := by
  unfold yesM
  rw [List.take_succ_eq_append_getElem (List.getElem?_eq_some_iff.1 hx).1, (List.getElem?_eq_some_iff.1 hx).2, List.filter_append, List.length_append]
  cases hh : h x <;> simp [hh]
theorem yes_le (h : Int → Bool) (l : List Int) : 0 ≤ yesM h l ∧ yesM h l ≤ l.length := by
  unfold yesM
  have := List.length_filter_le h l
  omega
/-- The best of the first places, and how many it leaves at most. -/
def askS (H : Nat → Int → Bool) (l : List Int) : Nat → Int × Int
  | 0 => (0, (l.length : Int) + 1)
  | p + 1 => if max (yesM (H p) l) (l.length - yesM (H p) l) < (askS H l p).2 then ((p : Int), max (yesM (H p) l) (l.length - yesM (H p) l)) else askS H l p
theorem askS_lo (H : Nat → Int → Bool) (l : List Int) : ∀ p, 0 ≤ (askS H l p).2 ∧ (askS H l p).2 ≤ l.length + 1
  | 0 => ⟨by unfold askS; simp; omega, by unfold askS; simp⟩
  | p + 1 => by
    have h1 := askS_lo H l p
    have h2 := yes_le (H p) l
    unfold askS
    split
    · simp only
      omega
    · exact h1
theorem askS_congr {H H' : Nat → Int → Bool} {l : List Int} : ∀ {P : Nat}, (∀ p, p < P → ∀ x ∈ l, H p x = H' p x) → askS H l P = askS H' l P
  | 0, _ => rfl
  | p + 1, h => by
    unfold askS
    rw [askS_congr (P := p) (fun q hq => h q (by omega))]
    have e : yesM (H p) l = yesM (H' p) l := by
      unfold yesM
      rw [List.filter_congr (h p (by omega))]
    rw [e]
def heardH (g : Mat) (n : Int) (p : Nat) (x : Int) : Bool := heardM g ⟨0, (p : Int), n⟩ x.toNat
def askV (f : Fg) (k m n : Int) : Int × Int := if placedE f k m n = 0 then askS (heardH (farM f) n) (placedL f k m n) f.pl.toNat else (0, 0)
end Go.Proofs.YtpbpcplboikpcaaGreat

namespace Go.Proofs.YtpbpcplboikpcaaGreat
open Go Go.RowKit Go.Shelf
set_option linter.unusedVariables false
set_option linter.unusedSimpArgs false

set_option maxRecDepth 100000 in
set_option maxHeartbeats 4000000 in
theorem askx_any (v : Value) (f : Fg) (k m n : Int) (w : World) (hf : FgR w v f) (hs : f.sized) :
    Calls Tryz.prog 46 #[v, .int .i64 k, .int .i64 m, .int .i64 n] w fun e w' => e = .returned (.tuple #[.int .i64 (askV f k m n).1, .int .i64 (askV f k m n).2, .int .i64 (placedE f k m n)]) ∧ Ext w w' := by
  obtain ⟨s, rfl, hr⟩ := hf.rows
  obtain ⟨T, hT⟩ : ∃ T, placedE f k m n = T := ⟨_, rfl⟩
  have HT := hid hT
  obtain ⟨R, hR⟩ : ∃ R, askV f k m n = R := ⟨_, rfl⟩
  have HR := hid hR
  rw [hT, hR]
  clear hT hR
  have HS := hid hs
  have HX0 : Hid (Ext w (w.alloc (.cells #[.int .i64 f.pl, .int .i64 f.mi, .slice s.a1 f.tr.length s.c1, .slice s.a2 f.bl.length s.c2, .slice s.a3 f.ct.length s.c3] 28))) := Ext.alloc (Ext.refl w) _
  show Calls _ _ #[.agg #[.int .i64 f.pl, .int .i64 f.mi, .slice s.a1 f.tr.length s.c1, .slice s.a2 f.bl.length s.c2, .slice s.a3 f.ct.length s.c3], _, _, _] _ _
  go_enter Tryz.func46, Tryz.ntmps46
  go_wp2_with fail
  refine (placed_any (.agg #[.int .i64 f.pl, .int .i64 f.mi, .slice s.a1 f.tr.length s.c1, .slice s.a2 f.bl.length s.c2, .slice s.a3 f.ct.length s.c3]) f k m n _ (FRows.fg (hr.ext HX0.out)) HS.out).mono ?_
  rintro e w1 ⟨r, pv, rfl, hb1, hpv, hr1, hr2⟩
  have hx1 := HX0.out.trans hb1
  have kc0 := hb1.cell (p := ⟨w.heap.size, 0, none⟩) (u := .int .i64 f.pl) (by simp [go_sem])
  clear HX0 hb1
  rw [HT.out]
  obtain ⟨A3, k3, e3, hI3, hk3⟩ := hpv
  subst e3
  by_cases h0 : T = 0
  case neg =>
    have HN2 : Hid (R = (0, 0)) := by unfold Hid; rw [← HR.out]; unfold askV; rw [HT.out, if_neg h0]
    go_wp2
    go_ret3
    exact ⟨by rw [HN2.out]; rfl, hx1⟩
  subst h0
  obtain ⟨D, s2, hrD, hdk, hrk⟩ := hr1 HT.out
  subst hrD
  obtain ⟨hce, hmi, hnB, hlo⟩ := placedE_ok HT.out
  have HOK : Hid (FogOK f) := checkF_ok (cartE_ok hce).1
  have hpl := HOK.out.pl
  have HTV : Hid (R = askS (heardH (farM f) n) (placedL f k m n) f.pl.toNat) := by unfold Hid; rw [← HR.out]; unfold askV; rw [if_pos HT.out]
  have hPL : (∀ x ∈ placedL f k m n, 0 ≤ x ∧ x < 8) ∧ (placedL f k m n).length ≤ 8 := by
    unfold placedL; rw [if_pos HT.out]; exact canN_lt hpl.2 _
  have HPL := hid hPL
  obtain ⟨PL, hPLe⟩ : ∃ PL, placedL f k m n = PL := ⟨_, rfl⟩
  rw [hPLe] at HPL HTV hI3 hk3
  obtain ⟨P, hP⟩ : ∃ P : Nat, f.pl = P := ⟨f.pl.toNat, by omega⟩
  have HP : Hid (f.pl = P ∧ f.pl.toNat = P) := ⟨hP, by omega⟩
  rw [hP] at kc0 hpl
  rw [HP.out.2] at HTV
  have HDK := hid hdk
  try rw [hPLe]
  have hP8 : P ≤ 8 := by omega
  have hl8 := HPL.out.2
  have HI := hid hI3
  obtain ⟨H, hH⟩ : ∃ H, heardH (farM f) n = H := ⟨_, rfl⟩
  rw [hH] at HTV
  have HH := hid hH
  clear hce hmi hnB hlo hr1 hr2 hPL hP hdk hPLe hI3 hH
  go_wp2
  clear kc0
  go_loopw [36, 8, 9] (fun i36 i8 i9 wr => ∃ p : Nat, p ≤ P ∧ i36 = .int .i64 (p : Int) ∧ (∃ S1 S2 : Int, i8 = .int .i64 S1 ∧ i9 = .int .i64 S2 ∧ Hid (askS H PL p = (S1, S2)) ∧ 0 ≤ S2 ∧ S2 ≤ 9) ∧ Ext w1 wr) (fun i _ _ _ => P - (intOf i).toNat)
  case atStart => exact ⟨0, Nat.zero_le _, rfl, ⟨0, (PL.length : Int) + 1, rfl, rfl, rfl, by omega, by omega⟩, Ext.refl _⟩
  case round =>
    obtain ⟨p, hp, rfl, ⟨S1, S2, rfl, rfl, HSS, hS1, hS2⟩, hxr⟩ := hrel
    by_cases hlp : p < P
    · have hlp' : (p : Int) < (P : Int) := by omega
      obtain ⟨V, hV⟩ : ∃ V : World, V = wr := ⟨_, rfl⟩
      subst hV
      go_wp2
      go_loopw [41, 14] (fun i41 i14 wr => ∃ j : Nat, j ≤ PL.length ∧ i41 = .int .i64 (j : Int) ∧ (∃ Y : Int, i14 = .int .i64 Y ∧ Hid (yesM (H p) (PL.take j) = Y) ∧ 0 ≤ Y ∧ Y ≤ j) ∧ Ext V wr) (fun i _ _ => PL.length - (intOf i).toNat)
      case atStart => exact ⟨0, Nat.zero_le _, rfl, ⟨0, rfl, rfl, by omega, by omega⟩, Ext.refl _⟩
      case round =>
        obtain ⟨j, hj, rfl, ⟨Y, rfl, HY, hY0, hY1⟩, hxv⟩ := hrel
        by_cases hlj : j < PL.length
        · have hlj' : (j : Int) < (PL.length : Int) := by omega
          obtain ⟨x, hxj⟩ := get_of_lt PL j hlj
          have hx8 := HPL.out.1 x (mem_of_get hxj)
          obtain ⟨xn, hxn⟩ : ∃ xn : Nat, x = xn := ⟨x.toNat, by omega⟩
          rw [hxn] at hxj hx8
          obtain ⟨b5, o5, e5, g5⟩ := (HI.out.ext (hxr.trans hxv)).at_ hxj
          have HYN := hid (yes_next (h := H p) hxj)
          have K := heard_any D s2 f (farM f) ⟨0, (p : Int), n⟩ xn wr (HDK.out.ext (hxr.trans hxv)) ⟨by show 0 ≤ (p : Int); omega, by show (p : Int) < 8; omega⟩ (by omega)
          have HHX : Hid (heardM (farM f) ⟨0, (p : Int), n⟩ xn = H p xn) := by unfold Hid; rw [← HH.out]; rfl
          have HK := hid K
          clear hxj K hxn hx8
          subst e5
          go_wp2_with fail
          refine HK.out.mono ?_
          clear HK
          rintro e w5 ⟨rfl, hb5⟩
          rw [HHX.out]
          obtain ⟨B, hB⟩ : ∃ B, H p xn = B := ⟨_, rfl⟩
          have HB := hid hB
          rw [hB]
          have hxv9 := hxv.trans hb5
          clear hB g5
          cases B
          · have HY2 : Hid (yesM (H p) (PL.take (j + 1)) = Y) := by unfold Hid; rw [HYN.out, HB.out, HY.out]; simp
            clear HYN HHX HY HB
            go_wp2
            go_roundw
            case rel => exact ⟨j + 1, by omega, by go_num, ⟨Y, rfl, HY2, by omega, by omega⟩, hxv9⟩
            case measure => simp [intOf]; omega
          · have HY2 : Hid (yesM (H p) (PL.take (j + 1)) = Y + 1) := by unfold Hid; rw [HYN.out, HB.out, HY.out]; simp
            clear HYN HHX HY HB
            go_wp2
            go_roundw
            case rel => exact ⟨j + 1, by omega, by go_num, ⟨Y + 1, rfl, HY2, by omega, by omega⟩, hxv9⟩
            case measure => simp [intOf]; omega
        · have hlj' : ¬ (j : Int) < (PL.length : Int) := by omega
          have HYE : Hid (yesM (H p) PL = Y) := by
            have h := HY.out
            rw [List.take_of_length_le (by omega)] at h
            exact h
          have hYl : Y ≤ (PL.length : Int) := by omega
          have HST : Hid (askS H PL (p + 1) = if max Y ((PL.length : Int) - Y) < S2 then ((p : Int), max Y ((PL.length : Int) - Y)) else (S1, S2)) := by
            unfold Hid
            show (if max (yesM (H p) PL) ((PL.length : Int) - yesM (H p) PL) < (askS H PL p).2 then ((p : Int), max (yesM (H p) PL) ((PL.length : Int) - yesM (H p) PL)) else askS H PL p) = _
            rw [HYE.out, HSS.out]
          obtain ⟨Z, hZ⟩ : ∃ Z, max Y ((PL.length : Int) - Y) = Z := ⟨_, rfl⟩
          have hZ0 : 0 ≤ Z := by omega
          have hZ8 : Z ≤ 8 := by omega
          rw [hZ] at HST
          clear HY HYE HSS
          by_cases hm : Y < (PL.length : Int) - Y
          · obtain rfl : Z = (PL.length : Int) - Y := by omega
            by_cases hlt : (PL.length : Int) - Y < S2
            · have HS2 : Hid (askS H PL (p + 1) = ((p : Int), (PL.length : Int) - Y)) := by unfold Hid; rw [HST.out, if_pos hlt]
              clear HST
              go_wp2
              go_roundw
              case rel => exact ⟨p + 1, by omega, by go_num, ⟨p, _, rfl, rfl, HS2, hZ0, by omega⟩, hxr.trans hxv⟩
              case measure => simp [intOf]; omega
            · have HS2 : Hid (askS H PL (p + 1) = (S1, S2)) := by unfold Hid; rw [HST.out, if_neg hlt]
              clear HST
              go_wp2
              go_roundw
              case rel => exact ⟨p + 1, by omega, by go_num, ⟨S1, S2, rfl, rfl, HS2, hS1, hS2⟩, hxr.trans hxv⟩
              case measure => simp [intOf]; omega
          · obtain rfl : Z = Y := by omega
            by_cases hlt : Z < S2
            · have HS2 : Hid (askS H PL (p + 1) = ((p : Int), Z)) := by unfold Hid; rw [HST.out, if_pos hlt]
              clear HST
              go_wp2
              go_roundw
              case rel => exact ⟨p + 1, by omega, by go_num, ⟨p, _, rfl, rfl, HS2, hZ0, by omega⟩, hxr.trans hxv⟩
              case measure => simp [intOf]; omega
            · have HS2 : Hid (askS H PL (p + 1) = (S1, S2)) := by unfold Hid; rw [HST.out, if_neg hlt]
              clear HST
              go_wp2
              go_roundw
              case rel => exact ⟨p + 1, by omega, by go_num, ⟨S1, S2, rfl, rfl, HS2, hS1, hS2⟩, hxr.trans hxv⟩
              case measure => simp [intOf]; omega
    · have hlp' : ¬ (p : Int) < (P : Int) := by omega
      have HE : Hid (R = (S1, S2)) := by unfold Hid; rw [HTV.out, ← HSS.out, show p = P by omega]
      clear HSS
      go_wp2
      go_ret3
      exact ⟨by rw [HE.out]; rfl, hx1.trans hxr⟩
end Go.Proofs.YtpbpcplboikpcaaGreat

namespace Go.Proofs.YtpbpcplboikpcaaGreat
open Go Go.RowKit Go.Shelf
set_option linter.unusedVariables false
set_option linter.unusedSimpArgs false

/-- The error of a choice asked of a cart in a minute. -/
def apartE (f : Fg) (k m : Int) (ch : List (Int × Int)) : Int := if cartE f k ≠ 0 then cartE f k else if miOK f m then (if ch.all fun c => plOK f c.1 then (if ch.all fun c => inB c.2 0 7 then (if lostF (farM f) f (ctAt f k) then 7 else 0) else 3) else 1) else 3
def apartL (f : Fg) (k m : Int) (ch : List (Int × Int)) : List (Int × Int) := if apartE f k m ch = 0 then pairsM (farM f) ch (natI (canN (farM f) f (ctAt f k) m.toNat)) else []
def ApartPost (w : World) (f : Fg) (k m : Int) (ch : List (Int × Int)) (e : Ending) (w' : World) : Prop := ∃ r, e = .returned (.tuple #[r, .int .i64 (apartE f k m ch)]) ∧ Ext w w' ∧ PrsR w' r (apartL f k m ch)
set_option maxRecDepth 100000 in
set_option maxHeartbeats 1000000 in
theorem apart1_fn {A1 A2 A3 : Option Addr} {n1 c1 n2 c2 n3 c3 : Nat} (w : World) (B : Nat) (f : Fg) (vs : Array Value) (h5 : ∀ W, Kc w W → (W.cell? ⟨B, 0, none⟩ = some (.int .i64 f.pl) ∧ W.cell? ⟨B, 1, none⟩ = some (.int .i64 f.mi) ∧ W.cell? ⟨B, 2, none⟩ = some (.slice A1 n1 c1) ∧ W.cell? ⟨B, 3, none⟩ = some (.slice A2 n2 c2) ∧ W.cell? ⟨B, 4, none⟩ = some (.slice A3 n3 c3)) ∧ FgR W (.agg #[.int .i64 f.pl, .int .i64 f.mi, .slice A1 n1 c1, .slice A2 n2 c2, .slice A3 n3 c3]) f) (h1 : 1 ≤ f.pl) (h8 : f.pl ≤ 8) :
    FnP Tryz.prog (.func (.func 135) #[] #[.pointer (some ⟨B, 0, none⟩)]) w PrR anyx (fun c => plOK f c.1) := by
  refine ⟨_, _, _, rfl, enters_of Tryz.func135 (by kernel_rfl) rfl, fun x v W hs hW hR => ?_⟩
  obtain rfl : v = pval x := hR
  have H5 := hid h5
  have e0 := fun o => (H5.out (W.alloc o) (hW.alloc o)).1.1
  have e1 := fun o => (H5.out (W.alloc o) (hW.alloc o)).1.2.1
  have e2 := fun o => (H5.out (W.alloc o) (hW.alloc o)).1.2.2.1
  have e3 := fun o => (H5.out (W.alloc o) (hW.alloc o)).1.2.2.2.1
  have e4 := fun o => (H5.out (W.alloc o) (hW.alloc o)).1.2.2.2.2
  have HFG : Hid (∀ o, FgR (W.alloc o) (.agg #[.int .i64 f.pl, .int .i64 f.mi, .slice A1 n1 c1, .slice A2 n2 c2, .slice A3 n3 c3]) f) := fun o => (H5.out (W.alloc o) (hW.alloc o)).2
  clear h5
  unfold pval
  show Calls _ _ #[_, _] _ _
  go_enter Tryz.func135, Tryz.ntmps135
  go_wp2_with fail
  refine (place_any _ f x.1 _ (HFG.out _) h1 h8).mono ?_
  rintro e w1 ⟨rfl, hb1⟩
  go_wp2
  go_ret
  exact ⟨rfl, (Ext.alloc (Ext.refl W) _).trans hb1⟩
set_option maxRecDepth 100000 in
set_option maxHeartbeats 1000000 in
theorem apart2_fn (w : World) : FnP Tryz.prog (.func (.func 136) #[] #[]) w PrR anyx (fun c => inB c.2 0 7) := by
  refine ⟨_, _, _, rfl, enters_of Tryz.func136 (by kernel_rfl) rfl, fun x v W hs hW hR => ?_⟩
  obtain rfl : v = pval x := hR
  unfold pval
  show Calls _ _ #[_] _ _
  go_enter Tryz.func136, Tryz.ntmps136
  go_wp2_with fail
  refine (in_any _ _ _ _).mono ?_
  rintro e w1 ⟨rfl, hw1⟩
  subst w1
  go_wp2
  go_ret
  exact ⟨rfl, Ext.alloc (Ext.refl _) _⟩
set_option maxRecDepth 100000 in
set_option maxHeartbeats 4000000 in
theorem apart_any (v : Value) (f : Fg) (k m : Int) (AC : Option Addr) (kC : Nat) (ch : List (Int × Int)) (w : World) (hf : FgR w v f) (hs : f.sized) (hCh : Prs w AC ch) (hcl : ch.length ≤ 1000) :
    Calls Tryz.prog 43 #[v, .int .i64 k, .int .i64 m, .slice AC ch.length kC] w (ApartPost w f k m ch) := by
  have hnil := @Lib.run_eql_slice_nil Tryz.prog
  have HCH := hid hCh
  clear hCh
  obtain ⟨s, rfl, hr⟩ := hf.rows
  obtain ⟨T, hT⟩ : ∃ T, cartE f k = T := ⟨_, rfl⟩
  have HT := hid hT
  clear hT
  have HS := hid hs
  have HX0 : Hid (Ext w (w.alloc (.cells #[.int .i64 f.pl, .int .i64 f.mi, .slice s.a1 f.tr.length s.c1, .slice s.a2 f.bl.length s.c2, .slice s.a3 f.ct.length s.c3] 28))) := Ext.alloc (Ext.refl w) _
  show Calls _ _ #[.agg #[.int .i64 f.pl, .int .i64 f.mi, .slice s.a1 f.tr.length s.c1, .slice s.a2 f.bl.length s.c2, .slice s.a3 f.ct.length s.c3], .int .i64 k, .int .i64 m, .slice AC ch.length kC] _ _
  go_enter Tryz.func43, Tryz.ntmps43
  go_wp2_with fail
  refine (carted_any (.agg #[.int .i64 f.pl, .int .i64 f.mi, .slice s.a1 f.tr.length s.c1, .slice s.a2 f.bl.length s.c2, .slice s.a3 f.ct.length s.c3]) f k _ (FRows.fg (hr.ext HX0.out)) HS.out).mono ?_
  rintro e w1 ⟨r, rfl, hb1, hr1, hr2⟩
  have hx1 := HX0.out.trans hb1
  have kc0 := hb1.cell (p := ⟨w.heap.size, 0, none⟩) (u := .int .i64 f.pl) (by simp [go_sem])
  have kc1 := hb1.cell (p := ⟨w.heap.size, 1, none⟩) (u := .int .i64 f.mi) (by simp [go_sem])
  have kc2 := hb1.cell (p := ⟨w.heap.size, 2, none⟩) (u := .slice s.a1 f.tr.length s.c1) (by simp [go_sem])
  have kc3 := hb1.cell (p := ⟨w.heap.size, 3, none⟩) (u := .slice s.a2 f.bl.length s.c2) (by simp [go_sem])
  have kc4 := hb1.cell (p := ⟨w.heap.size, 4, none⟩) (u := .slice s.a3 f.ct.length s.c3) (by simp [go_sem])
  clear HX0 hb1
  rw [HT.out]
  by_cases h0 : T = 0
  case neg =>
    have HE0 : Hid (cartE f k ≠ 0) := by unfold Hid; rw [HT.out]; exact h0
    have hr3 := hr2 HE0.out
    subst hr3
    clear hr1 hr2
    have HN2 : Hid (apartE f k m ch ≠ 0) := by unfold Hid apartE; rw [if_pos HE0.out]; exact HE0.out
    have HN : Hid (apartE f k m ch = T) := by unfold Hid apartE; rw [if_pos HE0.out]; exact HT.out
    have hneT := neqE h0
    go_wp2
    go_ret2
    exact ⟨.slice none 0 0, by rw [HN.out]; rfl, hx1, by unfold apartL; rw [if_neg HN2.out]; exact PrsR.nil _⟩
  subst h0
  obtain ⟨D, s2, hrD, hdk, hrk⟩ := hr1 HT.out
  subst hrD
  clear hr1 hr2
  obtain ⟨hce, hk0, hk1⟩ := cartE_ok HT.out
  have HOK : Hid (FogOK f) := checkF_ok hce
  obtain ⟨kn, rfl⟩ : ∃ kn : Nat, k = kn := ⟨k.toNat, by omega⟩
  have hkl : kn < f.ct.length := by omega
  have hkl' : (kn : Int) < (f.ct.length : Int) := by omega
  obtain ⟨c, hcg⟩ := get_of_lt f.ct kn hkl
  have HCM : Hid (c ∈ f.ct) := mem_of_get hcg
  have HCA : Hid (ctAt f (kn : Int) = c) := by unfold Hid ctAt; rw [Int.toNat_natCast, List.getD_eq_getElem?_getD, hcg]; rfl
  obtain ⟨cb, co, A1, c1, A2, c2, hA3, cc0, cc1, hCS, hCR, hck1, hck2⟩ := (hr.ct.ext hx1).at_ hcg
  have HA3 := hid hA3
  have HDK := hid hdk
  rw [hA3] at kc4
  rw [HA3.out]
  have hcR : CtR w1 (.agg #[.slice A1 c.st.length c1, .slice A2 c.rp.length c2]) c := ⟨A1, c1, A2, c2, rfl, hCS, hCR, hck1, hck2⟩
  clear hk0 hk1 hce hcg hA3 hkl
  go_wp2_with fail
  refine (minute_any (.agg #[.int .i64 f.pl, .int .i64 f.mi, .slice s.a1 f.tr.length s.c1, .slice s.a2 f.bl.length s.c2, .slice (some ⟨cb, co, none⟩) f.ct.length s.c3]) f m w1 (by have := FRows.fg (hr.ext hx1); unfold Ads.val fval at this; rw [HA3.out] at this; exact this)).mono ?_
  rintro e w2 ⟨rfl, hb2⟩
  have hx2 := hx1.trans hb2
  have HFG : Hid (∀ W, Kc w1 W → (W.cell? ⟨w.heap.size, 0, none⟩ = some (.int .i64 f.pl) ∧ W.cell? ⟨w.heap.size, 1, none⟩ = some (.int .i64 f.mi) ∧ W.cell? ⟨w.heap.size, 2, none⟩ = some (.slice s.a1 f.tr.length s.c1) ∧ W.cell? ⟨w.heap.size, 3, none⟩ = some (.slice s.a2 f.bl.length s.c2) ∧ W.cell? ⟨w.heap.size, 4, none⟩ = some (.slice (some ⟨cb, co, none⟩) f.ct.length s.c3)) ∧ FgR W (.agg #[.int .i64 f.pl, .int .i64 f.mi, .slice s.a1 f.tr.length s.c1, .slice s.a2 f.bl.length s.c2, .slice (some ⟨cb, co, none⟩) f.ct.length s.c3]) f) := fun W h =>
    ⟨⟨h.cell kc0, h.cell kc1, h.cell kc2, h.cell kc3, h.cell kc4⟩, by have := FRows.fg (hr.kc (hx1.kc.trans h)); unfold Ads.val fval at this; rw [HA3.out] at this; exact this⟩
  have HCC : Hid (∀ W, Ext w1 W → W.cell? ⟨cb, co + kn * 2, none⟩ = some (.slice A1 c.st.length c1) ∧ W.cell? ⟨cb, co + kn * 2 + 1, none⟩ = some (.slice A2 c.rp.length c2)) := fun W h => ⟨h.cell cc0, h.cell cc1⟩
  have HCE : Hid (cartE f (kn : Int) = 0) := HT
  have hpl := HOK.out.pl
  clear kc0 kc1 kc2 kc3 kc4 cc0 cc1
  cases hq : miOK f m
  · have HN : Hid (apartE f kn m ch = 3) := by unfold Hid apartE; rw [if_neg (fun h => h HCE.out), hq]; rfl
    have HN2 : Hid (apartE f kn m ch ≠ 0) := by unfold Hid; rw [HN.out]; decide
    go_wp2
    go_ret2
    exact ⟨.slice none 0 0, by rw [HN.out]; rfl, hx2, by unfold apartL; rw [if_neg HN2.out]; exact PrsR.nil _⟩
  have hmm := inB_iff.1 hq
  obtain ⟨mn, rfl⟩ : ∃ mn : Nat, m = mn := ⟨m.toNat, by omega⟩
  have HQ := hid hq
  have hmi := HOK.out.mi
  have hmn : mn ≤ f.mi.toNat := by omega
  have hmn' : (mn : Int) < (f.mi.toNat : Int) + 1 := by omega
  clear hq hmm
  have HF1 : Hid (FnP Tryz.prog (.func (.func 135) #[] #[.pointer (some ⟨w.heap.size, 0, none⟩)]) w2 PrR anyx (fun c => plOK f c.1)) := apart1_fn w2 w.heap.size f #[] (fun W h => HFG.out W (hb2.kc.trans h)) hpl.1 hpl.2
  obtain ⟨B1, hB1⟩ : ∃ B1, (ch.all fun c => plOK f c.1) = B1 := ⟨_, rfl⟩
  have K := every_pair AC kC ch _ anyx (fun c => plOK f c.1) w2 (Rows.ext HCH.out hx2) (by omega) (fun _ _ => trivial) HF1.out
  rw [hB1] at K
  have HB1 := hid hB1
  have HK := hid K
  clear K hB1 HF1
  go_wp2_with fail
  refine HK.out.mono ?_
  clear HK
  rintro e w3 ⟨rfl, hb3⟩
  have hb13 := hb2.trans hb3
  have hx3 := hx1.trans hb13
  cases B1
  · have HN : Hid (apartE f kn mn ch = 1) := by unfold Hid apartE; rw [if_neg (fun h => h HCE.out), HQ.out, HB1.out]; rfl
    have HN2 : Hid (apartE f kn mn ch ≠ 0) := by unfold Hid; rw [HN.out]; decide
    go_wp2
    go_ret2
    exact ⟨.slice none 0 0, by rw [HN.out]; rfl, hx3, by unfold apartL; rw [if_neg HN2.out]; exact PrsR.nil _⟩
  obtain ⟨B2, hB2⟩ : ∃ B2, (ch.all fun c => inB c.2 0 7) = B2 := ⟨_, rfl⟩
  have K := every_pair AC kC ch _ anyx (fun c => inB c.2 0 7) w3 (Rows.ext HCH.out hx3) (by omega) (fun _ _ => trivial) (apart2_fn w3)
  rw [hB2] at K
  have HB2 := hid hB2
  have HK := hid K
  clear K hB2
  go_wp2_with fail
  refine HK.out.mono ?_
  clear HK
  rintro e w4 ⟨rfl, hb4⟩
  have hb14 := hb13.trans hb4
  have hx4 := hx1.trans hb14
  cases B2
  · have HN : Hid (apartE f kn mn ch = 3) := by unfold Hid apartE; rw [if_neg (fun h => h HCE.out), HQ.out, HB1.out, HB2.out]; rfl
    have HN2 : Hid (apartE f kn mn ch ≠ 0) := by unfold Hid; rw [HN.out]; decide
    go_wp2
    go_ret2
    exact ⟨.slice none 0 0, by rw [HN.out]; rfl, hx4, by unfold apartL; rw [if_neg HN2.out]; exact PrsR.nil _⟩
  obtain ⟨⟨kc0, kc1, kc2, kc3, kc4⟩, -⟩ := HFG.out w4 hb14.kc
  obtain ⟨cc0, cc1⟩ := HCC.out w4 hb14
  go_wp2_with fail
  refine (can_any D s2 f (farM f) c (.agg #[.slice A1 c.st.length c1, .slice A2 c.rp.length c2]) w4 (HDK.out.ext hb14) (hrk.ext hb14) HOK.out HCM.out (hcR.ext hb14)).mono ?_
  rintro e w5 ⟨vv, rfl, hb5, hl1, hl2⟩
  have hb15 := hb14.trans hb5
  have hx5 := hx1.trans hb15
  clear kc0 kc1 kc2 kc3 kc4 cc0 cc1
  cases hl : lostF (farM f) f c
  · obtain ⟨A9, k9, e9, hI9, hk9⟩ := hl2 hl
    subst e9
    have HN : Hid (apartE f kn mn ch = 0) := by unfold Hid apartE; rw [if_neg (fun h => h HCE.out), HQ.out, HB1.out, HB2.out, HCA.out, hl]; rfl
    obtain ⟨rb, ro, A7, k7, eA9, q0, hI7, hk7⟩ := hI9.at_ (canL_get hmn)
    cases eA9
    have hni := natI_len (canN (farM f) f c mn)
    have HNI := hid hni
    have HAL : Hid (apartL f kn mn ch = pairsM (farM f) ch (natI (canN (farM f) f c mn))) := by unfold Hid apartL; rw [if_pos HN.out, HCA.out, Int.toNat_natCast]
    have hcn := canN_lt (g := farM f) (c := c) hpl.2 mn
    obtain ⟨PL, hPL⟩ : ∃ PL, natI (canN (farM f) f c mn) = PL := ⟨_, rfl⟩
    rw [hPL] at q0 hI7 hk7 HAL hcn
    have HCN := hid hcn
    have HCHP : Hid (∀ x ∈ ch, 0 ≤ x.1 ∧ x.1 < 8) := fun x hx => by
      have h := HB1.out
      rw [List.all_eq_true] at h
      have h2 := h x hx
      unfold plOK at h2
      rw [inB_iff] at h2
      omega
    have K := pairs_any D s2 f (farM f) A7 AC k7 kC PL ch w5 (HDK.out.ext hb15) hI7 (Rows.ext HCH.out hx5) HCN.out.1 HCN.out.2 hk7 HCHP.out (by omega)
    have HK := hid K
    clear hl hl1 hl2 hni K hcn hPL HCHP
    go_wp2_with fail
    refine HK.out.mono ?_
    clear HK
    rintro e w6 ⟨A6, k6, rfl, hb6, hown6⟩
    go_wp2
    go_ret2
    exact ⟨_, by rw [HN.out]; rfl, hx5.trans hb6, by rw [HAL.out]; exact ⟨A6, k6, rfl, Rd.of_own hown6⟩⟩
  · have e9 := hl1 hl
    subst e9
    have HN : Hid (apartE f kn mn ch = 7) := by unfold Hid apartE; rw [if_neg (fun h => h HCE.out), HQ.out, HB1.out, HB2.out, HCA.out, hl]; rfl
    have HN2 : Hid (apartE f kn mn ch ≠ 0) := by unfold Hid; rw [HN.out]; decide
    clear hl hl1 hl2
    go_wp2
    go_ret2
    exact ⟨.slice none 0 0, by rw [HN.out]; rfl, hx5, by unfold apartL; rw [if_neg HN2.out]; exact PrsR.nil _⟩
end Go.Proofs.YtpbpcplboikpcaaGreat

namespace Go.Proofs.YtpbpcplboikpcaaGreat
open Go Go.RowKit Go.Shelf
set_option linter.unusedVariables false
set_option linter.unusedSimpArgs false

theorem bit_high {s i j : Nat} (h : s / 2 ^ i = 0) (hj : i ≤ j) : bit s j = false := by
  unfold bit
  have h1 : s < 2 ^ i := by
    rcases Nat.lt_or_ge s (2 ^ i) with h2 | h2
    · exact h2
    · have := Nat.div_pos h2 (Nat.pow_pos (n := i) (show 0 < 2 by omega)); omega
  have h2 : 2 ^ i ≤ 2 ^ j := Nat.pow_le_pow_right (by omega) hj
  rw [Nat.div_eq_of_lt (by omega)]
  simp
theorem someW_high {s i : Nat} (h : s / 2 ^ i = 0) : ∀ {n : Nat}, i ≤ n → someW (bit s) n = someW (bit s) i
  | n, hn => by
    obtain ⟨d, rfl⟩ : ∃ d, n = i + d := ⟨n - i, by omega⟩
    clear hn
    induction d with
    | zero => rfl
    | succ d ih => rw [show i + (d + 1) = (i + d) + 1 by omega, someW_snoc, ih, bit_high h (by omega)]; simp
def MembersPost (w : World) (L : List Int) (e : Ending) (w' : World) : Prop := ∃ A c, e = .returned (.slice A L.length c) ∧ w'.ownsRow w.heap.size 3 1 (.slice A L.length c) L.length (L.map (.int .i64)) ∧ Ext w w'
set_option maxRecDepth 100000 in
set_option maxHeartbeats 2000000 in
theorem members_any (n set : Nat) (w : World) (hn : n ≤ 12) (hset : set < 2 ^ n) :
    Calls Tryz.prog 120 #[.int .i64 (set : Int)] w (MembersPost w (someW (bit set) n)) := by
  have h4096 : set < 4096 := by have := Nat.pow_le_pow_right (show 0 < 2 by omega) hn; omega
  have HT : Hid (set / 2 ^ n = 0) := Nat.div_eq_of_lt hset
  obtain ⟨L, hL⟩ : ∃ L, someW (bit set) n = L := ⟨_, rfl⟩
  have HL := hid hL
  rw [hL]
  clear hL hset
  go_enter Tryz.func120, Tryz.ntmps120
  go_wp2
  go_loopw [0, 3, 4] (fun s0 s3 s4 wr => ∃ (i : Nat) (S : Nat) (A : Option Addr) (c m : Nat), i ≤ n ∧ s4 = .int .i64 (i : Int) ∧ s0 = .int .i64 (S : Int) ∧ Hid (S = set / 2 ^ i) ∧ S < 4096 ∧ s3 = .slice A m c ∧ Hid (m = (someW (bit set) i).length) ∧ m ≤ i ∧ Ext w wr ∧ Hid (wr.ownsRow w.heap.size 3 1 (.slice A m c) m ((someW (bit set) i).map (.int .i64)))) (fun s0 _ _ _ => (intOf s0).toNat)
  case atStart => exact ⟨0, set, none, 0, 0, Nat.zero_le _, rfl, rfl, by simp [Hid], h4096, rfl, rfl, Nat.le_refl _, Ext.refl _, own_nil _ _ _ _⟩
  case round =>
    obtain ⟨i, S, A, c, m, hi, rfl, rfl, HS, hS, rfl, HM, hm, hx, O⟩ := hrel
    by_cases hS0 : S = 0
    · have hgo : ¬ (0 : Int) < (S : Int) := by omega
      have HE : Hid (L = someW (bit set) i) := by unfold Hid; rw [← HL.out]; exact someW_high (by rw [← HS.out]; exact hS0) hi
      have HR : Hid (m = L.length ∧ wr.ownsRow w.heap.size 3 1 (.slice A m c) m (L.map (.int .i64))) := by unfold Hid; rw [HE.out]; exact ⟨HM.out, O.out⟩
      clear hS0 O HM HE
      go_wp2
      go_ret
      obtain ⟨h1, h2⟩ := HR.out
      subst h1
      exact ⟨A, c, rfl, h2, hx⟩
    · have hgo : (0 : Int) < (S : Int) := by omega
      have hin : i < n := by
        rcases Nat.lt_or_ge i n with h | h
        · exact h
        · obtain rfl : i = n := by omega
          exact absurd (HS.out.trans HT.out) hS0
      have hrem : (S : Int).tmod 2 = (S : Int) % 2 := Int.tmod_eq_emod_of_nonneg (by omega)
      have hquo : (S : Int).tdiv 2 = (S : Int) / 2 := Int.tdiv_eq_ediv_of_nonneg (by omega)
      have HS2 : Hid (S / 2 = set / 2 ^ (i + 1)) := by unfold Hid; rw [HS.out, Nat.div_div_eq_div_mul, Nat.pow_succ]
      have HBT : Hid (bit set i = decide (S % 2 = 1)) := by unfold Hid bit; rw [HS.out]
      by_cases hb : S % 2 = 1
      case neg =>
        have b1 : ((S : Int) % 2 == 1) = false := by simp; omega
        have HE : Hid (someW (bit set) (i + 1) = someW (bit set) i) := by unfold Hid; rw [someW_snoc, HBT.out, decide_eq_false hb]; simp
        have HM2 : Hid (m = (someW (bit set) (i + 1)).length) := by unfold Hid; rw [HE.out]; exact HM.out
        have O2 : Hid (wr.ownsRow w.heap.size 3 1 (.slice A m c) m ((someW (bit set) (i + 1)).map (.int .i64))) := by unfold Hid; rw [HE.out]; exact O.out
        clear O HM HE
        go_wp2
        go_roundw
        case rel => exact ⟨i + 1, S / 2, A, c, m, by omega, by go_num, by go_num, HS2, by omega, rfl, HM2, by omega, hx, O2⟩
        case measure => simp [intOf]; omega
      have b1 : ((S : Int) % 2 == 1) = true := by simp; omega
      have HE : Hid (someW (bit set) (i + 1) = someW (bit set) i ++ [(i : Int)]) := by unfold Hid; rw [someW_snoc, HBT.out, decide_eq_true hb]; rfl
      obtain ⟨W5, hW5⟩ : ∃ W5, wr.alloc (.cells #[.int .i64 (i : Int)] 3) = W5 := ⟨_, rfl⟩
      have hx5 : Ext wr W5 := by rw [← hW5]; exact Ext.alloc (Ext.refl _) _
      have HRD : Hid (Rd W5 (some ⟨wr.heap.size, 0, none⟩) [.int .i64 (i : Int)]) := by
        unfold Hid; rw [← hW5]
        exact rd_block (heap_alloc_new wr (.cells #[.int .i64 (i : Int)] 3))
      have O5 := hid (own_below O.out hx5)
      have hxw5 := hx.trans hx5
      have hsz5 := hxw5.size
      have hnb : (m + 1) * 8 ≤ 140737488355328 := by omega
      have HM2 : Hid (m + 1 = (someW (bit set) (i + 1)).length) := by unfold Hid; rw [HE.out, List.length_append, ← HM.out]; rfl
      have HXW := hid hxw5
      clear O HM hxw5 hb
      go_wp2_with (at_builtin; (try rw [hW5]); refine wpList_append_rd2 _ rfl _ _ 42 rfl elem_int w.heap.size _ m _ rfl O5.out (some ⟨wr.heap.size, 0, none⟩) 1 1 [.int .i64 (i : Int)] rfl rfl HRD.out (by simp [Value.oneCell']) hnb hsz5 ?_)
      intro A6 k6 W6 own6 hbel6 hgr6 hloc6
      have hxw6 : Ext w W6 := Ext.grown HXW.out hgr6 (fun k e => (O5.out.lt k e).1)
      have O6 : Hid (W6.ownsRow w.heap.size 3 1 (.slice A6 (m + 1) k6) (m + 1) ((someW (bit set) (i + 1)).map (.int .i64))) := by
        unfold Hid; rw [HE.out, List.map_append]; exact own6
      clear own6 hloc6 hgr6 hbel6 O5 HE
      go_wp2
      go_roundw
      case rel => exact ⟨i + 1, S / 2, A6, k6, m + 1, by omega, by go_num, by go_num, HS2, by omega, rfl, HM2, by omega, hxw6, O6⟩
      case measure => simp [intOf]; omega

theorem cmp_drop {a b : List Int} {k : Nat} {x y : Int} (hx : a[k]? = some x) (hy : b[k]? = some y) : cmpL (a.drop k) (b.drop k) = if x < y then -1 else if y < x then 1 else cmpL (a.drop (k + 1)) (b.drop (k + 1)) := by
  have h1 : k < a.length := (List.getElem?_eq_some_iff.1 hx).1
  have h2 : k < b.length := (List.getElem?_eq_some_iff.1 hy).1
  rw [List.drop_eq_getElem_cons h1, List.drop_eq_getElem_cons h2, (List.getElem?_eq_some_iff.1 hx).2, (List.getElem?_eq_some_iff.1 hy).2]
  rfl

set_option maxRecDepth 100000 in
set_option maxHeartbeats 1000000 in
theorem refahead_any (A A' : Option Addr) (ka kb : Nat) (a b : List Int) (w : World) (hA : Ints w A a) (hB : Ints w A' b) (hla : a.length ≤ 1000000) (hlb : b.length ≤ 1000000) :
    Calls Tryz.prog 121 #[.slice A a.length ka, .slice A' b.length kb] w fun e w' => e = .returned (.bool (fewerL a b)) ∧ Ext w w' := by
  obtain ⟨R, hR⟩ : ∃ R, fewerL a b = R := ⟨_, rfl⟩
  have HR := hid hR
  rw [hR]
  clear hR
  by_cases hlen : a.length = b.length
  case neg =>
    have hne : ((a.length : Int) != (b.length : Int)) = true := by simpa using fun h => hlen (by omega)
    have HE : Hid (R = decide (a.length < b.length)) := by
      unfold Hid
      rw [← HR.out]
      unfold fewerL
      have : (a.length == b.length) = false := by simpa using hlen
      rw [this, Bool.false_and, Bool.or_false]
    go_enter Tryz.func121, Tryz.ntmps121
    go_wp2
    go_ret
    exact ⟨ret_of (bool_of HE.out.symm), Ext.refl _⟩
  have hne : ((a.length : Int) != (b.length : Int)) = false := by simp [hlen]
  have HE : Hid (R = decide (cmpL (a.drop 0) (b.drop 0) < 0)) := by
    unfold Hid
    rw [← HR.out]
    unfold fewerL
    rw [decide_eq_false (by omega), Bool.false_or, hlen]
    simp
  have HLE := hid hlen
  have hl2 : (a.length : Int) = (b.length : Int) := by omega
  go_enter Tryz.func121, Tryz.ntmps121
  go_wp2
  go_loopw [5] (fun i wr => ∃ k : Nat, k ≤ a.length ∧ i = .int .i64 (k : Int) ∧ Ext w wr ∧ Hid (R = decide (cmpL (a.drop k) (b.drop k) < 0))) (fun i _ => a.length - (intOf i).toNat)
  case atStart => exact ⟨0, Nat.zero_le _, rfl, Ext.refl _, HE⟩
  case round =>
    obtain ⟨k, hk, rfl, hx, HQ⟩ := hrel
    by_cases hlt : k < a.length
    · have hlt' : (k : Int) < (a.length : Int) := by omega
      have hlt2 : (k : Int) < (b.length : Int) := by omega
      obtain ⟨x, hxk⟩ := get_of_lt a k hlt
      obtain ⟨y, hyk⟩ := get_of_lt b k (by omega)
      obtain ⟨b1, o1, rfl, c1⟩ := (hA.ext hx).at_ hxk
      obtain ⟨b2, o2, rfl, c2⟩ := (hB.ext hx).at_ hyk
      have HC := hid (cmp_drop hxk hyk)
      clear hxk hyk hl2
      by_cases hxy : x = y
      · subst hxy
        have n1 : (x != x) = false := by simp
        have HQ2 : Hid (R = decide (cmpL (a.drop (k + 1)) (b.drop (k + 1)) < 0)) := by
          unfold Hid
          rw [HQ.out, HC.out, if_neg (by omega), if_neg (by omega)]
        clear HQ HC
        go_wp2
        go_quiet (fail)
        go_wp2
        go_roundw
        case rel => exact ⟨k + 1, by omega, by go_num, hx.drewN _, HQ2⟩
        case measure => simp [intOf]; omega
      · have n1 : (x != y) = true := by simpa using hxy
        have HQ2 : Hid (R = decide (x < y)) := by
          unfold Hid
          rw [HQ.out, HC.out, decide_eq_decide]
          by_cases h : x < y
          · rw [if_pos h]; simp [h]
          · rw [if_neg h, if_pos (by omega)]; simp [h]
        clear HQ HC
        go_wp2
        go_quiet (fail)
        go_wp2
        go_quiet (fail)
        go_wp2
        go_ret
        exact ⟨ret_of (bool_of HQ2.out.symm), (hx.drewN _).drewN _⟩
    · have hlt' : ¬ (k : Int) < (a.length : Int) := by omega
      have HQ2 : Hid (R = false) := by
        unfold Hid
        have h3 := HLE.out
        rw [HQ.out, List.drop_eq_nil_of_le (by omega), List.drop_eq_nil_of_le (by omega)]
        rfl
      clear HQ
      go_wp2
      go_ret
      exact ⟨ret_of (bool_of HQ2.out.symm), hx⟩

set_option maxRecDepth 100000 in
set_option maxHeartbeats 1000000 in
theorem choice_any (A : Option Addr) (ka : Nat) (l : List Int) (n : Int) (w : World) (hA : Ints w A l) (hl : l.length ≤ 1000) :
    Calls Tryz.prog 134 #[.slice A l.length ka, .int .i64 n] w fun e w' => ∃ r, e = .returned r ∧ Ext w w' ∧ PrsR w' r (loudM l n) := by
  have HA := hid hA
  clear hA
  go_enter Tryz.func134, Tryz.ntmps134
  go_wp2
  go_loopw [5, 6] (fun s5 s6 wr => ∃ (i : Nat) (D : Option Addr) (c : Nat), i ≤ l.length ∧ s6 = .int .i64 (i : Int) ∧ s5 = .slice D i c ∧ Ext w wr ∧ Hid (wr.ownsRow w.heap.size 68 2 (.slice D i c) i (layPr.rows (loudM (l.take i) n)))) (fun _ s6 _ => l.length - (intOf s6).toNat)
  case atStart => exact ⟨0, none, 0, Nat.zero_le _, rfl, rfl, Ext.refl _, own_nil _ _ _ _⟩
  case round =>
    obtain ⟨i, D, c, hi, rfl, rfl, hx, O⟩ := hrel
    by_cases hlt : i < l.length
    · have hlt' : (i : Int) < (l.length : Int) := by omega
      obtain ⟨x, hxk⟩ := get_of_lt l i hlt
      obtain ⟨b1, o1, e1, g1⟩ := (HA.out.ext hx).at_ hxk
      have HTK : Hid (layPr.rows (loudM (l.take i) n) ++ layPr.rows [(x, n)] = layPr.rows (loudM (l.take (i + 1)) n)) := by
        unfold Hid
        rw [← Lay.rows_app]
        unfold loudM
        rw [List.take_succ_eq_append_getElem hlt, (List.getElem?_eq_some_iff.1 hxk).2, List.map_append]
        rfl
      clear hxk
      subst e1
      obtain ⟨W5, hW5⟩ : ∃ W5, wr.alloc (.cells #[.int .i64 x, .int .i64 n] 68) = W5 := ⟨_, rfl⟩
      have hx5 : Ext wr W5 := by rw [← hW5]; exact Ext.alloc (Ext.refl _) _
      have HRD : Hid (Rd W5 (some ⟨wr.heap.size, 0, none⟩) (layPr.rows [(x, n)])) := by
        unfold Hid; rw [← hW5]
        exact rd_block (heap_alloc_new wr (.cells #[.int .i64 x, .int .i64 n] 68))
      have O5 := hid (own_below O.out hx5)
      have hxw5 := hx.trans hx5
      have hsz5 := hxw5.size
      have hnb : (i + 1) * 16 ≤ 140737488355328 := by omega
      have HXW := hid hxw5
      clear O hxw5
      go_wp2_with (at_builtin; (try rw [hW5]); refine wpList_append_rd2 _ rfl _ _ 22 rfl elem_pair w.heap.size _ i _ rfl O5.out (some ⟨wr.heap.size, 0, none⟩) 1 1 (layPr.rows [(x, n)]) rfl rfl HRD.out (layPr.rows_one _) hnb hsz5 ?_)
      intro A6 k6 W6 own6 hbel6 hgr6 hloc6
      rw [HTK.out] at own6
      have hxw6 : Ext w W6 := Ext.grown HXW.out hgr6 (fun k e => (O5.out.lt k e).1)
      have O6 := hid own6
      clear own6 hloc6 hgr6 hbel6 O5 g1
      go_wp2
      go_roundw
      case rel => exact ⟨i + 1, A6, k6, by omega, by go_num, rfl, hxw6, O6⟩
      case measure => simp [intOf]; omega
    · have hlt' : ¬ (i : Int) < (l.length : Int) := by omega
      have hie : i = l.length := by omega
      subst hie
      have h := O.out
      rw [List.take_of_length_le (Nat.le_refl _)] at h
      have HR : Hid (PrsR wr (.slice D l.length c) (loudM l n)) := ⟨D, c, by rw [loudM_len], Rd.of_own h⟩
      clear O h
      go_wp2
      go_ret
      exact ⟨_, rfl, hx, HR.out⟩
end Go.Proofs.YtpbpcplboikpcaaGreat

namespace Go.Proofs.YtpbpcplboikpcaaGreat
open Go Go.RowKit Go.Shelf
set_option linter.unusedVariables false
set_option linter.unusedSimpArgs false

def hearH (f : Fg) (n : Int) (p : Nat) (x : Int) : Bool := hearR f p n x.toNat
set_option maxRecDepth 100000 in
set_option maxHeartbeats 4000000 in
theorem refask_any (v : Value) (f : Fg) (A : Option Addr) (ka : Nat) (l : List Int) (n : Int) (w : World) (hf : RgR w v f (distL f)) (hs : f.sized) (hok : FogOK f) (hA : Ints w A l) (hl : ∀ x ∈ l, 0 ≤ x ∧ x < f.pl) (hl8 : l.length ≤ 8) :
    Calls Tryz.prog 42 #[v, .slice A l.length ka, .int .i64 n] w fun e w' => e = .returned (.tuple #[.int .i64 (askS (hearH f n) l f.pl.toNat).1, .int .i64 (askS (hearH f n) l f.pl.toNat).2]) ∧ Ext w w' := by
  obtain ⟨s, A4, c4, rfl, hr, hd⟩ := hf
  have HS := hid hs
  have HOK := hid hok
  obtain ⟨P, hP⟩ : ∃ P : Nat, f.pl = P := ⟨f.pl.toNat, by have := hok.pl; omega⟩
  have hP8 : P ≤ 8 := by have := hok.pl; omega
  have HP : Hid (f.pl.toNat = P) := by unfold Hid; omega
  have HF : Hid (∀ w', Ext w w' → RgR w' (.agg #[.int .i64 (P : Int), .int .i64 f.mi, .slice s.a1 f.tr.length s.c1, .slice s.a2 f.bl.length s.c2, .slice s.a3 f.ct.length s.c3, .slice A4 (distL f).length c4]) f (distL f)) := fun w' h => ⟨s, A4, c4, by unfold rval; rw [hP], hr.ext h, hd.ext h⟩
  obtain ⟨W0, hW0⟩ : ∃ W0, w.alloc (.cells #[.int .i64 (P : Int), .int .i64 f.mi, .slice s.a1 f.tr.length s.c1, .slice s.a2 f.bl.length s.c2, .slice s.a3 f.ct.length s.c3, .slice A4 (distL f).length c4] 37) = W0 := ⟨_, rfl⟩
  have hx0 : Ext w W0 := by rw [← hW0]; exact Ext.alloc (Ext.refl w) _
  have FX : Hid (∀ w', Ext W0 w' → w'.cell? ⟨w.heap.size, 0, none⟩ = some (.int .i64 (P : Int)) ∧ w'.cell? ⟨w.heap.size, 1, none⟩ = some (.int .i64 f.mi) ∧ w'.cell? ⟨w.heap.size, 2, none⟩ = some (.slice s.a1 f.tr.length s.c1) ∧ w'.cell? ⟨w.heap.size, 3, none⟩ = some (.slice s.a2 f.bl.length s.c2) ∧ w'.cell? ⟨w.heap.size, 4, none⟩ = some (.slice s.a3 f.ct.length s.c3) ∧ w'.cell? ⟨w.heap.size, 5, none⟩ = some (.slice A4 (distL f).length c4)) := fun w' h => ⟨h.cell (by rw [← hW0]; simp [go_sem]), h.cell (by rw [← hW0]; simp [go_sem]), h.cell (by rw [← hW0]; simp [go_sem]), h.cell (by rw [← hW0]; simp [go_sem]), h.cell (by rw [← hW0]; simp [go_sem]), h.cell (by rw [← hW0]; simp [go_sem])⟩
  have HV : Hid (rval s f (.slice A4 (distL f).length c4) = .agg #[.int .i64 (P : Int), .int .i64 f.mi, .slice s.a1 f.tr.length s.c1, .slice s.a2 f.bl.length s.c2, .slice s.a3 f.ct.length s.c3, .slice A4 (distL f).length c4]) := by unfold Hid rval; rw [hP]
  rw [HV.out]
  have HPI : Hid (f.pl = (P : Int)) := hP
  clear hP hok hs HV
  rw [HP.out]
  obtain ⟨R, hR⟩ : ∃ R, askS (hearH f n) l P = R := ⟨_, rfl⟩
  have HR := hid hR
  rw [hR]
  have HL : Hid (∀ x ∈ l, 0 ≤ x ∧ x < (P : Int)) := by unfold Hid; rw [← HPI.out]; exact hl
  have HI := hid hA
  obtain ⟨H, hH⟩ : ∃ H, hearH f n = H := ⟨_, rfl⟩
  have HHD := hid hH
  rw [hH] at HR
  clear hR hl hA hH
  go_enter Tryz.func42, Tryz.ntmps42
  go_wp2
  try rw [hW0]
  clear hW0
  go_loopw [10, 8, 9] (fun i10 i8 i9 wr => ∃ p : Nat, p ≤ P ∧ i10 = .int .i64 (p : Int) ∧ (∃ S1 S2 : Int, i8 = .int .i64 S1 ∧ i9 = .int .i64 S2 ∧ Hid (askS H l p = (S1, S2)) ∧ 0 ≤ S2 ∧ S2 ≤ 9) ∧ Ext W0 wr) (fun i _ _ _ => P - (intOf i).toNat)
  case atStart => exact ⟨0, Nat.zero_le _, rfl, ⟨0, (l.length : Int) + 1, rfl, rfl, rfl, by omega, by omega⟩, Ext.refl _⟩
  case round =>
    obtain ⟨p, hp, rfl, ⟨S1, S2, rfl, rfl, HSS, hS1, hS2⟩, hxr⟩ := hrel
    obtain ⟨d0, d1, d2, d3, d4, d5⟩ := FX.out wr hxr
    by_cases hlp : p < P
    · have hlp' : (p : Int) < (P : Int) := by omega
      obtain ⟨V, hV⟩ : ∃ V : World, V = wr := ⟨_, rfl⟩
      subst hV
      have HPP : Hid (p < f.pl.toNat) := by unfold Hid; rw [HP.out]; exact hlp
      go_wp2
      clear d0 d1 d2 d3 d4 d5
      go_loopw [12, 11] (fun i12 i11 wr => ∃ j : Nat, j ≤ l.length ∧ i12 = .int .i64 (j : Int) ∧ (∃ Y : Int, i11 = .int .i64 Y ∧ Hid (yesM (H p) (l.take j) = Y) ∧ 0 ≤ Y ∧ Y ≤ j) ∧ Ext V wr) (fun i _ _ => l.length - (intOf i).toNat)
      case atStart => exact ⟨0, Nat.zero_le _, rfl, ⟨0, rfl, rfl, by omega, by omega⟩, Ext.refl _⟩
      case round =>
        obtain ⟨j, hj, rfl, ⟨Y, rfl, HY, hY0, hY1⟩, hxv⟩ := hrel
        by_cases hlj : j < l.length
        · have hlj' : (j : Int) < (l.length : Int) := by omega
          obtain ⟨x, hxj⟩ := get_of_lt l j hlj
          have hx8 := HL.out x (mem_of_get hxj)
          obtain ⟨xn, hxn⟩ : ∃ xn : Nat, x = xn := ⟨x.toNat, by omega⟩
          rw [hxn] at hxj hx8
          have HXP : Hid (xn < f.pl.toNat) := by unfold Hid; rw [HP.out]; omega
          obtain ⟨b5, o5, e5, g5⟩ := (HI.out.ext (hx0.trans (hxr.trans hxv))).at_ hxj
          have HYN := hid (yes_next (h := H p) hxj)
          obtain ⟨B, hB⟩ : ∃ B, hearR f p n xn = B := ⟨_, rfl⟩
          have HH := hid hB
          have HHX : Hid (H p xn = B) := by unfold Hid; rw [← HHD.out, ← hB]; rfl
          have FY : Hid (∀ w', Ext wr w' → w'.cell? ⟨w.heap.size, 0, none⟩ = some (.int .i64 (P : Int)) ∧ w'.cell? ⟨w.heap.size, 1, none⟩ = some (.int .i64 f.mi) ∧ w'.cell? ⟨w.heap.size, 2, none⟩ = some (.slice s.a1 f.tr.length s.c1) ∧ w'.cell? ⟨w.heap.size, 3, none⟩ = some (.slice s.a2 f.bl.length s.c2) ∧ w'.cell? ⟨w.heap.size, 4, none⟩ = some (.slice s.a3 f.ct.length s.c3) ∧ w'.cell? ⟨w.heap.size, 5, none⟩ = some (.slice A4 (distL f).length c4) ∧ w'.cell? ⟨b5, o5 + j, none⟩ = some (.int .i64 (xn : Int))) := fun w' h => by
            obtain ⟨t0, t1, t2, t3, t4, t5⟩ := FX.out w' (hxr.trans (hxv.trans h))
            exact ⟨t0, t1, t2, t3, t4, t5, h.cell g5⟩
          have HX0V : Hid (Ext w wr) := hx0.trans (hxr.trans hxv)
          clear hxj hxn hx8 hB g5
          subst e5
          go_wp2
          refine wp_region_shut Ext (fun w' => Ext wr w') (fun
            | 7 => some (fun v _ => v = .bool B)
            | _ => none) (by kernel_rfl) (by kernel_rfl) (fun _ _ h k => h.trans k) ?hT (Ext.drew (Ext.refl wr)) ?_
          case hT =>
            intro i R hR
            match i, hR with
            | 7, hR => cases hR; exact fun _ _ _ h _ => h
          refine wM_val ?ua0 rfl rfl Ext.refl (fun w' hD => ?ha0) (fun pha0 => ?na0)
          case ha0 =>
            obtain ⟨d0, d1, d2, d3, d4, d5, e0⟩ := FY.out w' hD.1
            go_simp; rfl
          simp only [Act.put, List.setIfInBounds_toArray, List.set_cons_succ, List.set_cons_zero, Nat.reduceAdd]
          refine wM_val ?ua1 rfl rfl Ext.refl (fun w' hD => ?ha1) (fun pha1 => ?na1)
          case ha1 =>
            obtain ⟨d0, d1, d2, d3, d4, d5, e0⟩ := FY.out w' hD.1
            go_simp; rfl
          simp only [Act.put, List.setIfInBounds_toArray, List.set_cons_succ, List.set_cons_zero, Nat.reduceAdd]
          refine wM_val ?ua2 rfl rfl Ext.refl (fun w' hD => ?ha2) (fun pha2 => ?na2)
          case ha2 =>
            obtain ⟨d0, d1, d2, d3, d4, d5, e0⟩ := FY.out w' hD.1
            go_simp; rfl
          simp only [Act.put, List.setIfInBounds_toArray, List.set_cons_succ, List.set_cons_zero, Nat.reduceAdd]
          refine wM_val ?ua3 rfl rfl Ext.refl (fun w' hD => ?ha3) (fun pha3 => ?na3)
          case ha3 =>
            obtain ⟨d0, d1, d2, d3, d4, d5, e0⟩ := FY.out w' hD.1
            go_simp; rfl
          simp only [Act.put, List.setIfInBounds_toArray, List.set_cons_succ, List.set_cons_zero, Nat.reduceAdd]
          refine wM_val ?ua4 rfl rfl Ext.refl (fun w' hD => ?ha4) (fun pha4 => ?na4)
          case ha4 =>
            obtain ⟨d0, d1, d2, d3, d4, d5, e0⟩ := FY.out w' hD.1
            go_simp; rfl
          simp only [Act.put, List.setIfInBounds_toArray, List.set_cons_succ, List.set_cons_zero, Nat.reduceAdd]
          refine wM_val ?ua5 rfl rfl Ext.refl (fun w' hD => ?ha5) (fun pha5 => ?na5)
          case ha5 =>
            obtain ⟨d0, d1, d2, d3, d4, d5, e0⟩ := FY.out w' hD.1
            go_simp; rfl
          simp only [Act.put, List.setIfInBounds_toArray, List.set_cons_succ, List.set_cons_zero, Nat.reduceAdd]
          refine wM_val ?ua6 rfl rfl Ext.refl (fun w' hD => ?ha6) (fun pha6 => ?na6)
          case ha6 =>
            obtain ⟨d0, d1, d2, d3, d4, d5, e0⟩ := FY.out w' hD.1
            go_simp; rfl
          simp only [Act.put, List.setIfInBounds_toArray, List.set_cons_succ, List.set_cons_zero, Nat.reduceAdd]
          refine wM_op _ rfl rfl (opens_call ?fa7 ?ga7 (fun w' hD => ?ha7) (fun w' hD => ?ca7)) (fun v7 hv7 => ?na7)
          case ha7 => go_simp; constructor <;> rfl
          case ca7 =>
            refine (refhears_any _ f p xn n w' (HF.out w' (HX0V.out.trans hD.1)) HOK.out HPP.out HXP.out).mono ?_
            rintro e w2 ⟨rfl, hb⟩
            exact ⟨_, rfl, hb, by rw [HH.out]⟩
          obtain ⟨_, -, -, rfl⟩ := hv7
          simp only [Act.put, List.setIfInBounds_toArray, List.set_cons_succ, List.set_cons_zero, Nat.reduceAdd]
          refine wM_nil ?_
          intro w9 hw9 hF9
          clear hF9
          have hxv9 := hxv.trans hw9
          cases B
          · have HY2 : Hid (yesM (H p) (l.take (j + 1)) = Y) := by unfold Hid; rw [HYN.out, HHX.out, HY.out]; simp
            clear HYN HHX HY
            go_wp2
            go_roundw
            case rel => exact ⟨j + 1, by omega, by go_num, ⟨Y, rfl, HY2, by omega, by omega⟩, hxv9⟩
            case measure => simp [intOf]; omega
          · have HY2 : Hid (yesM (H p) (l.take (j + 1)) = Y + 1) := by unfold Hid; rw [HYN.out, HHX.out, HY.out]; simp
            clear HYN HHX HY
            go_wp2
            go_roundw
            case rel => exact ⟨j + 1, by omega, by go_num, ⟨Y + 1, rfl, HY2, by omega, by omega⟩, hxv9⟩
            case measure => simp [intOf]; omega
        · have hlj' : ¬ (j : Int) < (l.length : Int) := by omega
          have HYE : Hid (yesM (H p) l = Y) := by
            have h := HY.out
            rw [List.take_of_length_le (by omega)] at h
            exact h
          have hYl : Y ≤ (l.length : Int) := by omega
          have HST : Hid (askS H l (p + 1) = if max Y ((l.length : Int) - Y) < S2 then ((p : Int), max Y ((l.length : Int) - Y)) else (S1, S2)) := by
            unfold Hid
            show (if max (yesM (H p) l) ((l.length : Int) - yesM (H p) l) < (askS H l p).2 then ((p : Int), max (yesM (H p) l) ((l.length : Int) - yesM (H p) l)) else askS H l p) = _
            rw [HYE.out, HSS.out]
          obtain ⟨Z, hZ⟩ : ∃ Z, max Y ((l.length : Int) - Y) = Z := ⟨_, rfl⟩
          have hZ0 : 0 ≤ Z := by omega
          have hZ8 : Z ≤ 8 := by omega
          rw [hZ] at HST
          clear HY HYE HSS
          by_cases hm : Y < (l.length : Int) - Y
          · obtain rfl : Z = (l.length : Int) - Y := by omega
            by_cases hlt : (l.length : Int) - Y < S2
            · have HS2 : Hid (askS H l (p + 1) = ((p : Int), (l.length : Int) - Y)) := by unfold Hid; rw [HST.out, if_pos hlt]
              go_wp2
              go_roundw
              case rel => exact ⟨p + 1, by omega, by go_num, ⟨p, _, rfl, rfl, HS2, hZ0, by omega⟩, hxr.trans hxv⟩
              case measure => simp [intOf]; omega
            · have HS2 : Hid (askS H l (p + 1) = (S1, S2)) := by unfold Hid; rw [HST.out, if_neg hlt]
              go_wp2
              go_roundw
              case rel => exact ⟨p + 1, by omega, by go_num, ⟨S1, S2, rfl, rfl, HS2, hS1, hS2⟩, hxr.trans hxv⟩
              case measure => simp [intOf]; omega
          · obtain rfl : Z = Y := by omega
            by_cases hlt : Z < S2
            · have HS2 : Hid (askS H l (p + 1) = ((p : Int), Z)) := by unfold Hid; rw [HST.out, if_pos hlt]
              go_wp2
              go_roundw
              case rel => exact ⟨p + 1, by omega, by go_num, ⟨p, _, rfl, rfl, HS2, hZ0, by omega⟩, hxr.trans hxv⟩
              case measure => simp [intOf]; omega
            · have HS2 : Hid (askS H l (p + 1) = (S1, S2)) := by unfold Hid; rw [HST.out, if_neg hlt]
              go_wp2
              go_roundw
              case rel => exact ⟨p + 1, by omega, by go_num, ⟨S1, S2, rfl, rfl, HS2, hS1, hS2⟩, hxr.trans hxv⟩
              case measure => simp [intOf]; omega
    · have hlp' : ¬ (p : Int) < (P : Int) := by omega
      have HE : Hid (R = (S1, S2)) := by unfold Hid; rw [← HR.out, ← HSS.out, show p = P by omega]
      clear HSS
      go_wp2
      go_ret2
      exact ⟨by rw [HE.out]; rfl, hx0.trans hxr⟩

def refTold (f : Fg) (p q : Int) (c : Int × Int) : Bool := hearR f c.1.toNat c.2 p.toNat != hearR f c.1.toNat c.2 q.toNat
theorem refTold_is {f : Fg} (h : FogOK f) {ch : List (Int × Int)} {p q : Int} (hc : ∀ x ∈ ch, (0 ≤ x.1 ∧ x.1 < f.pl) ∧ x.2 ≤ 7) (hp : 0 ≤ p ∧ p < f.pl) (hq : 0 ≤ q ∧ q < f.pl) : ch.any (refTold f p q) = toldBy (farM f) ch p q := by
  have hpl := h.pl
  unfold toldBy
  rw [Bool.eq_iff_iff]
  simp only [List.any_eq_true]
  have e : ∀ x ∈ ch, refTold f p q x = (heardM (farM f) ⟨0, x.1, x.2⟩ p.toNat != heardM (farM f) ⟨0, x.1, x.2⟩ q.toNat) := fun x hx => by
    have hx2 := hc x hx
    unfold refTold heardM
    rw [hearR_is h (by omega) (by omega) hx2.2, hearR_is h (by omega) (by omega) hx2.2]
  constructor
  · rintro ⟨x, hx, h1⟩; exact ⟨x, hx, by rw [← e x hx]; exact h1⟩
  · rintro ⟨x, hx, h1⟩; exact ⟨x, hx, by rw [e x hx]; exact h1⟩
set_option maxRecDepth 100000 in
set_option maxHeartbeats 8000000 in
theorem refapart_any (v : Value) (f : Fg) (A AC : Option Addr) (ka kc : Nat) (l : List Int) (ch : List (Int × Int)) (w : World) (hf : RgR w v f (distL f)) (hs : f.sized) (hok : FogOK f) (hA : Ints w A l) (hl : ∀ x ∈ l, 0 ≤ x ∧ x < f.pl) (hl8 : l.length ≤ 8) (hC : Prs w AC ch) (hcl : ch.length ≤ 1000) (hch : ∀ x ∈ ch, (0 ≤ x.1 ∧ x.1 < f.pl) ∧ x.2 ≤ 7) :
    Calls Tryz.prog 39 #[v, .slice A l.length ka, .slice AC ch.length kc] w fun e w' => ∃ r, e = .returned r ∧ Ext w w' ∧ PrsR w' r (pairsM (farM f) ch l) := by
  obtain ⟨s, A4, c4, rfl, hr, hd⟩ := hf
  have HS := hid hs
  have HOK := hid hok
  obtain ⟨P, hP⟩ : ∃ P : Nat, f.pl = P := ⟨f.pl.toNat, by have := hok.pl; omega⟩
  have hP8 : P ≤ 8 := by have := hok.pl; omega
  have HP : Hid (f.pl.toNat = P) := by unfold Hid; omega
  have HF : Hid (∀ w', Ext w w' → RgR w' (.agg #[.int .i64 (P : Int), .int .i64 f.mi, .slice s.a1 f.tr.length s.c1, .slice s.a2 f.bl.length s.c2, .slice s.a3 f.ct.length s.c3, .slice A4 (distL f).length c4]) f (distL f)) := fun w' h => ⟨s, A4, c4, by unfold rval; rw [hP], hr.ext h, hd.ext h⟩
  obtain ⟨W0, hW0⟩ : ∃ W0, w.alloc (.cells #[.int .i64 (P : Int), .int .i64 f.mi, .slice s.a1 f.tr.length s.c1, .slice s.a2 f.bl.length s.c2, .slice s.a3 f.ct.length s.c3, .slice A4 (distL f).length c4] 37) = W0 := ⟨_, rfl⟩
  have hx0 : Ext w W0 := by rw [← hW0]; exact Ext.alloc (Ext.refl w) _
  have FX : Hid (∀ w', Ext W0 w' → w'.cell? ⟨w.heap.size, 0, none⟩ = some (.int .i64 (P : Int)) ∧ w'.cell? ⟨w.heap.size, 1, none⟩ = some (.int .i64 f.mi) ∧ w'.cell? ⟨w.heap.size, 2, none⟩ = some (.slice s.a1 f.tr.length s.c1) ∧ w'.cell? ⟨w.heap.size, 3, none⟩ = some (.slice s.a2 f.bl.length s.c2) ∧ w'.cell? ⟨w.heap.size, 4, none⟩ = some (.slice s.a3 f.ct.length s.c3) ∧ w'.cell? ⟨w.heap.size, 5, none⟩ = some (.slice A4 (distL f).length c4)) := fun w' h => ⟨h.cell (by rw [← hW0]; simp [go_sem]), h.cell (by rw [← hW0]; simp [go_sem]), h.cell (by rw [← hW0]; simp [go_sem]), h.cell (by rw [← hW0]; simp [go_sem]), h.cell (by rw [← hW0]; simp [go_sem]), h.cell (by rw [← hW0]; simp [go_sem])⟩
  have HV : Hid (rval s f (.slice A4 (distL f).length c4) = .agg #[.int .i64 (P : Int), .int .i64 f.mi, .slice s.a1 f.tr.length s.c1, .slice s.a2 f.bl.length s.c2, .slice s.a3 f.ct.length s.c3, .slice A4 (distL f).length c4]) := by unfold Hid rval; rw [hP]
  rw [HV.out]
  have HPI : Hid (f.pl = (P : Int)) := hP
  clear hP hok hs HV
  obtain ⟨N, hN⟩ : ∃ N, pairsM (farM f) ch l = N := ⟨_, rfl⟩
  have HN := hid hN
  rw [hN]
  have HL := hid hl
  have HI := hid hA
  have HCI := hid hC
  have HCH := hid hch
  clear hN hl hA hC hch
  go_enter Tryz.func39, Tryz.ntmps39
  go_wp2
  try rw [hW0]
  clear hW0
  go_loopw [7, 8] (fun i7 i8 wr => ∃ (i : Nat) (D : Option Addr) (kd : Nat) (out : List (Int × Int)), i ≤ l.length ∧ i8 = .int .i64 (i : Int) ∧ i7 = .slice D out.length kd ∧ Hid (out ++ pairsM (farM f) ch (l.drop i) = N) ∧ out.length ≤ i * 8 ∧ Hid (wr.ownsRow W0.heap.size 68 2 (.slice D out.length kd) out.length (layPr.rows out)) ∧ Ext W0 wr) (fun _ i _ => l.length - (intOf i).toNat)
  case atStart => exact ⟨0, none, 0, [], Nat.zero_le _, rfl, rfl, HN.out, by simp, own_nil _ _ _ _, Ext.refl _⟩
  case round =>
    obtain ⟨i, D, kd, out, hi, rfl, rfl, HO, hol, OD, hx⟩ := hrel
    by_cases hlt : i < l.length
    · have hlt' : (i : Int) < (l.length : Int) := by omega
      obtain ⟨p, hpi⟩ := get_of_lt l i hlt
      have hp8 := HL.out p (mem_of_get hpi)
      obtain ⟨pn, rfl⟩ : ∃ pn : Nat, p = pn := ⟨p.toNat, by omega⟩
      have HPN : Hid (pn < f.pl.toNat) := by unfold Hid; omega
      have HPI2 := hid hpi
      have HP8 := hid hp8
      have HDR := hid (pairsM_drop (g := farM f) (ch := ch) hpi)
      have HO2 : Hid ((out ++ ([] : List (Int × Int))) ++ (((l.drop (i + 1)).filter fun q => !toldBy (farM f) ch (pn : Int) q).map (fun q => ((pn : Int), q)) ++ pairsM (farM f) ch (l.drop (i + 1))) = N) := by
        unfold Hid; rw [List.append_nil, ← HDR.out]; exact HO.out
      clear hpi hp8 HO HDR
      obtain ⟨V, hV⟩ : ∃ V : World, V = wr := ⟨_, rfl⟩
      subst hV
      go_wp2
      go_loopw [7, 9, 10, 11] (fun i7 i9 i10 i11 wr => ∃ (k : Nat) (D : Option Addr) (kd : Nat) (out : List (Int × Int)), i + 1 ≤ k ∧ k ≤ l.length ∧ i9 = .int .i64 (k : Int) ∧ i7 = .slice D out.length kd ∧ Hid (out ++ (((l.drop k).filter fun q => !toldBy (farM f) ch (pn : Int) q).map (fun q => ((pn : Int), q)) ++ pairsM (farM f) ch (l.drop (i + 1))) = N) ∧ out.length ≤ i * 8 + (k - (i + 1)) ∧ Hid (wr.ownsRow W0.heap.size 68 2 (.slice D out.length kd) out.length (layPr.rows out)) ∧ Ext W0 wr) (fun _ i _ _ _ => l.length - (intOf i).toNat)
      case atStart => exact ⟨i + 1, D, kd, out, Nat.le_refl _, by omega, by go_num, rfl, by have h := HO2.out; rw [List.append_nil] at h; exact h, by omega, OD, hx⟩
      case round =>
        obtain ⟨k, D, kd, out, hk1, hk, rfl, rfl, HO, hol, OD, hx⟩ := hrel
        by_cases hlk : k < l.length
        · have hlk' : (k : Int) < (l.length : Int) := by omega
          obtain ⟨q, hqk⟩ := get_of_lt l k hlk
          have hq8 := HL.out q (mem_of_get hqk)
          obtain ⟨qn, rfl⟩ : ∃ qn : Nat, q = qn := ⟨q.toNat, by omega⟩
          have HQN : Hid (qn < f.pl.toNat) := by unfold Hid; omega
          have HQK := hid hqk
          have HQ8 := hid hq8
          have HDK : Hid (l.drop k = (qn : Int) :: l.drop (k + 1)) := by
            unfold Hid
            rw [List.drop_eq_getElem_cons hlk, (List.getElem?_eq_some_iff.1 hqk).2]
          clear hqk hq8
          obtain ⟨U, hU⟩ : ∃ V : World, V = wr := ⟨_, rfl⟩
          subst hU
          go_wp2
          go_loopw [10, 11] (fun i10 i11 wr => ∃ c : Nat, c ≤ ch.length ∧ i11 = .int .i64 (c : Int) ∧ (∃ B, i10 = .bool B ∧ Hid (B = (ch.take c).any (refTold f pn qn))) ∧ Ext U wr) (fun _ i _ => ch.length - (intOf i).toNat)
          case atStart => exact ⟨0, Nat.zero_le _, rfl, ⟨false, rfl, rfl⟩, Ext.refl _⟩
          case round =>
            obtain ⟨c, hc, rfl, ⟨B, rfl, HB⟩, hxu⟩ := hrel
            by_cases hlc : c < ch.length
            · have hlc' : (c : Int) < (ch.length : Int) := by omega
              obtain ⟨cc, hcc⟩ := get_of_lt ch c hlc
              have hc8 := HCH.out cc (mem_of_get hcc)
              have HBN : Hid ((ch.take (c + 1)).any (refTold f pn qn) = (B || refTold f pn qn cc)) := by
                unfold Hid
                rw [List.take_succ_eq_append_getElem hlc, (List.getElem?_eq_some_iff.1 hcc).2, List.any_append, ← HB.out]
                simp
              obtain ⟨cq, hcq⟩ : ∃ cq : Nat, cc.1 = cq := ⟨cc.1.toNat, by omega⟩
              have HCQ : Hid (cq < f.pl.toNat) := by unfold Hid; omega
              obtain ⟨H1, hH1⟩ : ∃ H1, hearR f cq cc.2 pn = H1 := ⟨_, rfl⟩
              obtain ⟨H2, hH2⟩ : ∃ H2, hearR f cq cc.2 qn = H2 := ⟨_, rfl⟩
              have HH1 := hid hH1
              have HH2 := hid hH2
              have HTL : Hid (refTold f pn qn cc = (H1 != H2)) := by unfold Hid refTold; rw [hcq, Int.toNat_natCast, Int.toNat_natCast, Int.toNat_natCast, hH1, hH2]
              have hxw := hx0.trans (hx.trans hxu)
              obtain ⟨b5, o5, e5, g5⟩ := (HI.out.ext hxw).at_ HPI2.out
              obtain ⟨b6, o6, e6, g6⟩ := (HI.out.ext hxw).at_ HQK.out
              obtain ⟨b7, o7, e7, g7, g8⟩ := Prs.at_ (Rows.ext HCI.out hxw) hcc
              rw [hcq] at g7
              have e56 : b6 = b5 ∧ o6 = o5 := by rw [e5] at e6; cases e6; exact ⟨rfl, rfl⟩
              obtain ⟨eb, eo⟩ := e56
              subst eb
              subst eo
              have FY : Hid (∀ w', Ext wr w' → w'.cell? ⟨w.heap.size, 0, none⟩ = some (.int .i64 (P : Int)) ∧ w'.cell? ⟨w.heap.size, 1, none⟩ = some (.int .i64 f.mi) ∧ w'.cell? ⟨w.heap.size, 2, none⟩ = some (.slice s.a1 f.tr.length s.c1) ∧ w'.cell? ⟨w.heap.size, 3, none⟩ = some (.slice s.a2 f.bl.length s.c2) ∧ w'.cell? ⟨w.heap.size, 4, none⟩ = some (.slice s.a3 f.ct.length s.c3) ∧ w'.cell? ⟨w.heap.size, 5, none⟩ = some (.slice A4 (distL f).length c4) ∧ w'.cell? ⟨b7, o7 + c * 2, none⟩ = some (.int .i64 (cq : Int)) ∧ w'.cell? ⟨b7, o7 + c * 2 + 1, none⟩ = some (.int .i64 cc.2) ∧ w'.cell? ⟨b6, o6 + i, none⟩ = some (.int .i64 (pn : Int)) ∧ w'.cell? ⟨b6, o6 + k, none⟩ = some (.int .i64 (qn : Int))) := fun w' h => by
                obtain ⟨t0, t1, t2, t3, t4, t5⟩ := FX.out w' (hx.trans (hxu.trans h))
                exact ⟨t0, t1, t2, t3, t4, t5, h.cell g7, h.cell g8, h.cell g5, h.cell g6⟩
              have HX0V := hid hxw
              clear hcc hc8 hcq hH1 hH2 e6 g5 g6 g7 g8 HB hxw
              subst e5
              subst e7
              cases B
              case true =>
                have HB2 : Hid (true = (ch.take (c + 1)).any (refTold f pn qn)) := by unfold Hid; rw [HBN.out]; rfl
                clear HBN HTL
                go_wp2
                go_quiet (fail)
                go_wp2
                go_roundw
                case rel => exact ⟨c + 1, by omega, by go_num, ⟨true, rfl, HB2⟩, Ext.drewN hxu _⟩
                case measure => simp [intOf]; omega
              have HB2 : Hid ((H1 != H2) = (ch.take (c + 1)).any (refTold f pn qn)) := by unfold Hid; rw [HBN.out, HTL.out]; rfl
              clear HBN HTL
              go_wp2
              refine wp_region_shut Ext (fun w' => Ext wr w') (fun
                | 17 => some (fun v _ => v = .bool H1)
                | 33 => some (fun v _ => v = .bool H2)
                | _ => none) (by kernel_rfl) (by kernel_rfl) (fun _ _ h k => h.trans k) ?hT (Ext.drew (Ext.refl wr)) ?_
              case hT =>
                intro i R hR
                match i, hR with
                | 17, hR => cases hR; exact fun _ _ _ h _ => h
                | 33, hR => cases hR; exact fun _ _ _ h _ => h
              refine wM_val ?ub0 rfl rfl Ext.refl (fun w' hD => ?hb0) (fun phb0 => ?nb0)
              case hb0 =>
                obtain ⟨d0, d1, d2, d3, d4, d5, e0, e1, e2, e3⟩ := FY.out w' hD.1
                go_simp; rfl
              simp only [Act.put, List.setIfInBounds_toArray, List.set_cons_succ, List.set_cons_zero, Nat.reduceAdd]
              refine wM_val ?ub1 rfl rfl Ext.refl (fun w' hD => ?hb1) (fun phb1 => ?nb1)
              case hb1 =>
                obtain ⟨d0, d1, d2, d3, d4, d5, e0, e1, e2, e3⟩ := FY.out w' hD.1
                go_simp; rfl
              simp only [Act.put, List.setIfInBounds_toArray, List.set_cons_succ, List.set_cons_zero, Nat.reduceAdd]
              refine wM_val ?ub2 rfl rfl Ext.refl (fun w' hD => ?hb2) (fun phb2 => ?nb2)
              case hb2 =>
                obtain ⟨d0, d1, d2, d3, d4, d5, e0, e1, e2, e3⟩ := FY.out w' hD.1
                go_simp; rfl
              simp only [Act.put, List.setIfInBounds_toArray, List.set_cons_succ, List.set_cons_zero, Nat.reduceAdd]
              refine wM_val ?ub3 rfl rfl Ext.refl (fun w' hD => ?hb3) (fun phb3 => ?nb3)
              case hb3 =>
                obtain ⟨d0, d1, d2, d3, d4, d5, e0, e1, e2, e3⟩ := FY.out w' hD.1
                go_simp; rfl
              simp only [Act.put, List.setIfInBounds_toArray, List.set_cons_succ, List.set_cons_zero, Nat.reduceAdd]
              refine wM_val ?ub4 rfl rfl Ext.refl (fun w' hD => ?hb4) (fun phb4 => ?nb4)
              case hb4 =>
                obtain ⟨d0, d1, d2, d3, d4, d5, e0, e1, e2, e3⟩ := FY.out w' hD.1
                go_simp; rfl
              simp only [Act.put, List.setIfInBounds_toArray, List.set_cons_succ, List.set_cons_zero, Nat.reduceAdd]
              refine wM_val ?ub5 rfl rfl Ext.refl (fun w' hD => ?hb5) (fun phb5 => ?nb5)
              case hb5 =>
                obtain ⟨d0, d1, d2, d3, d4, d5, e0, e1, e2, e3⟩ := FY.out w' hD.1
                go_simp; rfl
              simp only [Act.put, List.setIfInBounds_toArray, List.set_cons_succ, List.set_cons_zero, Nat.reduceAdd]
              refine wM_val ?ub6 rfl rfl Ext.refl (fun w' hD => ?hb6) (fun phb6 => ?nb6)
              case hb6 =>
                obtain ⟨d0, d1, d2, d3, d4, d5, e0, e1, e2, e3⟩ := FY.out w' hD.1
                go_simp; rfl
              simp only [Act.put, List.setIfInBounds_toArray, List.set_cons_succ, List.set_cons_zero, Nat.reduceAdd]
              refine wM_val ?ub7 rfl rfl Ext.refl (fun w' hD => ?hb7) (fun phb7 => ?nb7)
              case hb7 =>
                obtain ⟨d0, d1, d2, d3, d4, d5, e0, e1, e2, e3⟩ := FY.out w' hD.1
                go_simp; rfl
              simp only [Act.put, List.setIfInBounds_toArray, List.set_cons_succ, List.set_cons_zero, Nat.reduceAdd]
              refine wM_val ?ub8 rfl rfl Ext.refl (fun w' hD => ?hb8) (fun phb8 => ?nb8)
              case hb8 =>
                obtain ⟨d0, d1, d2, d3, d4, d5, e0, e1, e2, e3⟩ := FY.out w' hD.1
                go_simp; rfl
              simp only [Act.put, List.setIfInBounds_toArray, List.set_cons_succ, List.set_cons_zero, Nat.reduceAdd]
              refine wM_val ?ub9 rfl rfl Ext.refl (fun w' hD => ?hb9) (fun phb9 => ?nb9)
              case hb9 =>
                obtain ⟨d0, d1, d2, d3, d4, d5, e0, e1, e2, e3⟩ := FY.out w' hD.1
                go_simp; rfl
              simp only [Act.put, List.setIfInBounds_toArray, List.set_cons_succ, List.set_cons_zero, Nat.reduceAdd]
              refine wM_val ?ub10 rfl rfl Ext.refl (fun w' hD => ?hb10) (fun phb10 => ?nb10)
              case hb10 =>
                obtain ⟨d0, d1, d2, d3, d4, d5, e0, e1, e2, e3⟩ := FY.out w' hD.1
                go_simp; rfl
              simp only [Act.put, List.setIfInBounds_toArray, List.set_cons_succ, List.set_cons_zero, Nat.reduceAdd]
              refine wM_val ?ub11 rfl rfl Ext.refl (fun w' hD => ?hb11) (fun phb11 => ?nb11)
              case hb11 =>
                obtain ⟨d0, d1, d2, d3, d4, d5, e0, e1, e2, e3⟩ := FY.out w' hD.1
                go_simp; rfl
              simp only [Act.put, List.setIfInBounds_toArray, List.set_cons_succ, List.set_cons_zero, Nat.reduceAdd]
              refine wM_val ?ub12 rfl rfl Ext.refl (fun w' hD => ?hb12) (fun phb12 => ?nb12)
              case hb12 =>
                obtain ⟨d0, d1, d2, d3, d4, d5, e0, e1, e2, e3⟩ := FY.out w' hD.1
                go_simp; rfl
              simp only [Act.put, List.setIfInBounds_toArray, List.set_cons_succ, List.set_cons_zero, Nat.reduceAdd]
              refine wM_val ?ub13 rfl rfl Ext.refl (fun w' hD => ?hb13) (fun phb13 => ?nb13)
              case hb13 =>
                obtain ⟨d0, d1, d2, d3, d4, d5, e0, e1, e2, e3⟩ := FY.out w' hD.1
                go_simp; rfl
              simp only [Act.put, List.setIfInBounds_toArray, List.set_cons_succ, List.set_cons_zero, Nat.reduceAdd]
              refine wM_val ?ub14 rfl rfl Ext.refl (fun w' hD => ?hb14) (fun phb14 => ?nb14)
              case hb14 =>
                obtain ⟨d0, d1, d2, d3, d4, d5, e0, e1, e2, e3⟩ := FY.out w' hD.1
                go_simp; rfl
              simp only [Act.put, List.setIfInBounds_toArray, List.set_cons_succ, List.set_cons_zero, Nat.reduceAdd]
              refine wM_val ?ub15 rfl rfl Ext.refl (fun w' hD => ?hb15) (fun phb15 => ?nb15)
              case hb15 =>
                obtain ⟨d0, d1, d2, d3, d4, d5, e0, e1, e2, e3⟩ := FY.out w' hD.1
                go_simp; rfl
              simp only [Act.put, List.setIfInBounds_toArray, List.set_cons_succ, List.set_cons_zero, Nat.reduceAdd]
              refine wM_val ?ub16 rfl rfl Ext.refl (fun w' hD => ?hb16) (fun phb16 => ?nb16)
              case hb16 =>
                obtain ⟨d0, d1, d2, d3, d4, d5, e0, e1, e2, e3⟩ := FY.out w' hD.1
                go_simp; rfl
              simp only [Act.put, List.setIfInBounds_toArray, List.set_cons_succ, List.set_cons_zero, Nat.reduceAdd]
              refine wM_op _ rfl rfl (opens_call ?fb17 ?gb17 (fun w' hD => ?hb17) (fun w' hD => ?cb17)) (fun v17 hv17 => ?nb17)
              case hb17 => go_simp; constructor <;> rfl
              case cb17 =>
                refine (refhears_any _ f cq pn cc.2 w' (HF.out w' (HX0V.out.trans hD.1)) HOK.out HCQ.out HPN.out).mono ?_
                rintro e w2 ⟨rfl, hb⟩
                exact ⟨_, rfl, hb, by rw [HH1.out]⟩
              obtain ⟨_, -, -, rfl⟩ := hv17
              simp only [Act.put, List.setIfInBounds_toArray, List.set_cons_succ, List.set_cons_zero, Nat.reduceAdd]
              refine wM_val ?ub18 rfl rfl Ext.refl (fun w' hD => ?hb18) (fun phb18 => ?nb18)
              case hb18 =>
                obtain ⟨d0, d1, d2, d3, d4, d5, e0, e1, e2, e3⟩ := FY.out w' hD.1
                go_simp; rfl
              simp only [Act.put, List.setIfInBounds_toArray, List.set_cons_succ, List.set_cons_zero, Nat.reduceAdd]
              refine wM_val ?ub19 rfl rfl Ext.refl (fun w' hD => ?hb19) (fun phb19 => ?nb19)
              case hb19 =>
                obtain ⟨d0, d1, d2, d3, d4, d5, e0, e1, e2, e3⟩ := FY.out w' hD.1
                go_simp; rfl
              simp only [Act.put, List.setIfInBounds_toArray, List.set_cons_succ, List.set_cons_zero, Nat.reduceAdd]
              refine wM_val ?ub20 rfl rfl Ext.refl (fun w' hD => ?hb20) (fun phb20 => ?nb20)
              case hb20 =>
                obtain ⟨d0, d1, d2, d3, d4, d5, e0, e1, e2, e3⟩ := FY.out w' hD.1
                go_simp; rfl
              simp only [Act.put, List.setIfInBounds_toArray, List.set_cons_succ, List.set_cons_zero, Nat.reduceAdd]
              refine wM_val ?ub21 rfl rfl Ext.refl (fun w' hD => ?hb21) (fun phb21 => ?nb21)
              case hb21 =>
                obtain ⟨d0, d1, d2, d3, d4, d5, e0, e1, e2, e3⟩ := FY.out w' hD.1
                go_simp; rfl
              simp only [Act.put, List.setIfInBounds_toArray, List.set_cons_succ, List.set_cons_zero, Nat.reduceAdd]
              refine wM_val ?ub22 rfl rfl Ext.refl (fun w' hD => ?hb22) (fun phb22 => ?nb22)
              case hb22 =>
                obtain ⟨d0, d1, d2, d3, d4, d5, e0, e1, e2, e3⟩ := FY.out w' hD.1
                go_simp; rfl
              simp only [Act.put, List.setIfInBounds_toArray, List.set_cons_succ, List.set_cons_zero, Nat.reduceAdd]
              refine wM_val ?ub23 rfl rfl Ext.refl (fun w' hD => ?hb23) (fun phb23 => ?nb23)
              case hb23 =>
                obtain ⟨d0, d1, d2, d3, d4, d5, e0, e1, e2, e3⟩ := FY.out w' hD.1
                go_simp; rfl
              simp only [Act.put, List.setIfInBounds_toArray, List.set_cons_succ, List.set_cons_zero, Nat.reduceAdd]
              refine wM_val ?ub24 rfl rfl Ext.refl (fun w' hD => ?hb24) (fun phb24 => ?nb24)
              case hb24 =>
                obtain ⟨d0, d1, d2, d3, d4, d5, e0, e1, e2, e3⟩ := FY.out w' hD.1
                go_simp; rfl
              simp only [Act.put, List.setIfInBounds_toArray, List.set_cons_succ, List.set_cons_zero, Nat.reduceAdd]
              refine wM_val ?ub25 rfl rfl Ext.refl (fun w' hD => ?hb25) (fun phb25 => ?nb25)
              case hb25 =>
                obtain ⟨d0, d1, d2, d3, d4, d5, e0, e1, e2, e3⟩ := FY.out w' hD.1
                go_simp; rfl
              simp only [Act.put, List.setIfInBounds_toArray, List.set_cons_succ, List.set_cons_zero, Nat.reduceAdd]
              refine wM_val ?ub26 rfl rfl Ext.refl (fun w' hD => ?hb26) (fun phb26 => ?nb26)
              case hb26 =>
                obtain ⟨d0, d1, d2, d3, d4, d5, e0, e1, e2, e3⟩ := FY.out w' hD.1
                go_simp; rfl
              simp only [Act.put, List.setIfInBounds_toArray, List.set_cons_succ, List.set_cons_zero, Nat.reduceAdd]
              refine wM_val ?ub27 rfl rfl Ext.refl (fun w' hD => ?hb27) (fun phb27 => ?nb27)
              case hb27 =>
                obtain ⟨d0, d1, d2, d3, d4, d5, e0, e1, e2, e3⟩ := FY.out w' hD.1
                go_simp; rfl
              simp only [Act.put, List.setIfInBounds_toArray, List.set_cons_succ, List.set_cons_zero, Nat.reduceAdd]
              refine wM_val ?ub28 rfl rfl Ext.refl (fun w' hD => ?hb28) (fun phb28 => ?nb28)
              case hb28 =>
                obtain ⟨d0, d1, d2, d3, d4, d5, e0, e1, e2, e3⟩ := FY.out w' hD.1
                go_simp; rfl
              simp only [Act.put, List.setIfInBounds_toArray, List.set_cons_succ, List.set_cons_zero, Nat.reduceAdd]
              refine wM_val ?ub29 rfl rfl Ext.refl (fun w' hD => ?hb29) (fun phb29 => ?nb29)
              case hb29 =>
                obtain ⟨d0, d1, d2, d3, d4, d5, e0, e1, e2, e3⟩ := FY.out w' hD.1
                go_simp; rfl
              simp only [Act.put, List.setIfInBounds_toArray, List.set_cons_succ, List.set_cons_zero, Nat.reduceAdd]
              refine wM_val ?ub30 rfl rfl Ext.refl (fun w' hD => ?hb30) (fun phb30 => ?nb30)
              case hb30 =>
                obtain ⟨d0, d1, d2, d3, d4, d5, e0, e1, e2, e3⟩ := FY.out w' hD.1
                go_simp; rfl
              simp only [Act.put, List.setIfInBounds_toArray, List.set_cons_succ, List.set_cons_zero, Nat.reduceAdd]
              refine wM_val ?ub31 rfl rfl Ext.refl (fun w' hD => ?hb31) (fun phb31 => ?nb31)
              case hb31 =>
                obtain ⟨d0, d1, d2, d3, d4, d5, e0, e1, e2, e3⟩ := FY.out w' hD.1
                go_simp; rfl
              simp only [Act.put, List.setIfInBounds_toArray, List.set_cons_succ, List.set_cons_zero, Nat.reduceAdd]
              refine wM_val ?ub32 rfl rfl Ext.refl (fun w' hD => ?hb32) (fun phb32 => ?nb32)
              case hb32 =>
                obtain ⟨d0, d1, d2, d3, d4, d5, e0, e1, e2, e3⟩ := FY.out w' hD.1
                go_simp; rfl
              simp only [Act.put, List.setIfInBounds_toArray, List.set_cons_succ, List.set_cons_zero, Nat.reduceAdd]
              refine wM_op _ rfl rfl (opens_call ?fb33 ?gb33 (fun w' hD => ?hb33) (fun w' hD => ?cb33)) (fun v33 hv33 => ?nb33)
              case hb33 => go_simp; constructor <;> rfl
              case cb33 =>
                refine (refhears_any _ f cq qn cc.2 w' (HF.out w' (HX0V.out.trans hD.1)) HOK.out HCQ.out HQN.out).mono ?_
                rintro e w2 ⟨rfl, hb⟩
                exact ⟨_, rfl, hb, by rw [HH2.out]⟩
              obtain ⟨_, -, -, rfl⟩ := hv33
              simp only [Act.put, List.setIfInBounds_toArray, List.set_cons_succ, List.set_cons_zero, Nat.reduceAdd]
              refine wM_val ?ub34 rfl rfl Ext.refl (fun w' hD => ?hb34) (fun phb34 => ?nb34)
              case hb34 =>
                obtain ⟨d0, d1, d2, d3, d4, d5, e0, e1, e2, e3⟩ := FY.out w' hD.1
                go_simp; rfl
              simp only [Act.put, List.setIfInBounds_toArray, List.set_cons_succ, List.set_cons_zero, Nat.reduceAdd]
              refine wM_val ?ub35 rfl rfl Ext.refl (fun w' hD => ?hb35) (fun phb35 => ?nb35)
              case hb35 =>
                obtain ⟨d0, d1, d2, d3, d4, d5, e0, e1, e2, e3⟩ := FY.out w' hD.1
                go_simp; rfl
              simp only [Act.put, List.setIfInBounds_toArray, List.set_cons_succ, List.set_cons_zero, Nat.reduceAdd]
              refine wM_val ?ub36 rfl rfl Ext.refl (fun w' hD => ?hb36) (fun phb36 => ?nb36)
              case hb36 =>
                obtain ⟨d0, d1, d2, d3, d4, d5, e0, e1, e2, e3⟩ := FY.out w' hD.1
                go_simp; rfl
              simp only [Act.put, List.setIfInBounds_toArray, List.set_cons_succ, List.set_cons_zero, Nat.reduceAdd]
              refine wM_nil ?_
              intro w9 hw9 hF9
              clear hF9
              have hxu9 := hxu.trans hw9
              go_wp2
              go_roundw
              case rel => exact ⟨c + 1, by omega, by go_num, ⟨_, rfl, HB2⟩, hxu9⟩
              case measure => simp [intOf]; omega
            · have hlc' : ¬ (c : Int) < (ch.length : Int) := by omega
              have HT : Hid (B = toldBy (farM f) ch pn qn) := by
                unfold Hid
                rw [HB.out, List.take_of_length_le (by omega)]
                exact refTold_is HOK.out HCH.out HP8.out HQ8.out
              clear HB
              cases B
              case true =>
                have HO3 : Hid (out ++ (((l.drop (k + 1)).filter fun q => !toldBy (farM f) ch (pn : Int) q).map (fun q => ((pn : Int), q)) ++ pairsM (farM f) ch (l.drop (i + 1))) = N) := by
                  unfold Hid
                  have h := HO.out
                  rw [HDK.out, List.filter_cons, ← HT.out] at h
                  simpa using h
                have OD2 := hid (own_below OD.out hxu)
                clear HO HT OD
                go_wp2
                go_roundw
                case rel => exact ⟨k + 1, D, kd, out, by omega, by omega, by go_num, rfl, HO3, by omega, OD2, hx.trans hxu⟩
                case measure => simp [intOf]; omega
              have HO3 : Hid ((out ++ [((pn : Int), (qn : Int))]) ++ (((l.drop (k + 1)).filter fun q => !toldBy (farM f) ch (pn : Int) q).map (fun q => ((pn : Int), q)) ++ pairsM (farM f) ch (l.drop (i + 1))) = N) := by
                unfold Hid
                have h := HO.out
                rw [HDK.out, List.filter_cons, ← HT.out] at h
                simpa using h
              have hxw := hx0.trans (hx.trans hxu)
              obtain ⟨b5, o5, e5, g5⟩ := (HI.out.ext hxw).at_ HPI2.out
              obtain ⟨b6, o6, e6, g6⟩ := (HI.out.ext hxw).at_ HQK.out
              have e56 : b6 = b5 ∧ o6 = o5 := by rw [e5] at e6; cases e6; exact ⟨rfl, rfl⟩
              obtain ⟨eb, eo⟩ := e56
              subst eb
              subst eo
              have FZ : Hid (∀ w', Ext wr w' → w'.cell? ⟨b6, o6 + i, none⟩ = some (.int .i64 (pn : Int)) ∧ w'.cell? ⟨b6, o6 + k, none⟩ = some (.int .i64 (qn : Int))) := fun w' h => ⟨h.cell g5, h.cell g6⟩
              clear e6 g5 g6 HO HT
              subst e5
              go_wp2
              refine wp_region_shut_tail Ext (fun w' => Ext wr w') (fun
                | 10 => some (fun v w' => ∃ B, v = .slice (some ⟨B, 0, none⟩) 1 1 ∧ Rd w' (some ⟨B, 0, none⟩) [.int .i64 (pn : Int), .int .i64 (qn : Int)])
                | _ => none) 11 (by kernel_rfl) (by kernel_rfl) (fun _ _ h k => h.trans k) ?hT2 (Ext.drew (Ext.refl wr)) ?_
              case hT2 =>
                intro i R hR
                match i, hR with
                | 10, hR => cases hR; exact fun _ _ _ ⟨B, h1, h2⟩ k => ⟨B, h1, h2.ext k⟩
              refine wM_val ?uc0 rfl rfl Ext.refl (fun w' hD => ?hc0) (fun phc0 => ?nc0)
              case hc0 =>
                obtain ⟨e2, e3⟩ := FZ.out w' hD.1
                go_simp; rfl
              simp only [Act.put, List.setIfInBounds_toArray, List.set_cons_succ, List.set_cons_zero, Nat.reduceAdd]
              refine wM_val ?uc1 rfl rfl Ext.refl (fun w' hD => ?hc1) (fun phc1 => ?nc1)
              case hc1 =>
                obtain ⟨e2, e3⟩ := FZ.out w' hD.1
                go_simp; rfl
              simp only [Act.put, List.setIfInBounds_toArray, List.set_cons_succ, List.set_cons_zero, Nat.reduceAdd]
              refine wM_val ?uc2 rfl rfl Ext.refl (fun w' hD => ?hc2) (fun phc2 => ?nc2)
              case hc2 =>
                obtain ⟨e2, e3⟩ := FZ.out w' hD.1
                go_simp; rfl
              simp only [Act.put, List.setIfInBounds_toArray, List.set_cons_succ, List.set_cons_zero, Nat.reduceAdd]
              refine wM_val ?uc3 rfl rfl Ext.refl (fun w' hD => ?hc3) (fun phc3 => ?nc3)
              case hc3 =>
                obtain ⟨e2, e3⟩ := FZ.out w' hD.1
                go_simp; rfl
              simp only [Act.put, List.setIfInBounds_toArray, List.set_cons_succ, List.set_cons_zero, Nat.reduceAdd]
              refine wM_val ?uc4 rfl rfl Ext.refl (fun w' hD => ?hc4) (fun phc4 => ?nc4)
              case hc4 =>
                obtain ⟨e2, e3⟩ := FZ.out w' hD.1
                go_simp; rfl
              simp only [Act.put, List.setIfInBounds_toArray, List.set_cons_succ, List.set_cons_zero, Nat.reduceAdd]
              refine wM_val ?uc5 rfl rfl Ext.refl (fun w' hD => ?hc5) (fun phc5 => ?nc5)
              case hc5 =>
                obtain ⟨e2, e3⟩ := FZ.out w' hD.1
                go_simp; rfl
              simp only [Act.put, List.setIfInBounds_toArray, List.set_cons_succ, List.set_cons_zero, Nat.reduceAdd]
              refine wM_val ?uc6 rfl rfl Ext.refl (fun w' hD => ?hc6) (fun phc6 => ?nc6)
              case hc6 =>
                obtain ⟨e2, e3⟩ := FZ.out w' hD.1
                go_simp; rfl
              simp only [Act.put, List.setIfInBounds_toArray, List.set_cons_succ, List.set_cons_zero, Nat.reduceAdd]
              refine wM_val ?uc7 rfl rfl Ext.refl (fun w' hD => ?hc7) (fun phc7 => ?nc7)
              case hc7 =>
                obtain ⟨e2, e3⟩ := FZ.out w' hD.1
                go_simp; rfl
              simp only [Act.put, List.setIfInBounds_toArray, List.set_cons_succ, List.set_cons_zero, Nat.reduceAdd]
              refine wM_val ?uc8 rfl rfl Ext.refl (fun w' hD => ?hc8) (fun phc8 => ?nc8)
              case hc8 =>
                obtain ⟨e2, e3⟩ := FZ.out w' hD.1
                go_simp; rfl
              simp only [Act.put, List.setIfInBounds_toArray, List.set_cons_succ, List.set_cons_zero, Nat.reduceAdd]
              refine wM_val ?uc9 rfl rfl Ext.refl (fun w' hD => ?hc9) (fun phc9 => ?nc9)
              case hc9 =>
                obtain ⟨e2, e3⟩ := FZ.out w' hD.1
                go_simp; rfl
              simp only [Act.put, List.setIfInBounds_toArray, List.set_cons_succ, List.set_cons_zero, Nat.reduceAdd]
              refine wM_op _ rfl rfl (opens_val (fun w' hD => ?hc10)) (fun v10 hv10 => ?nc10)
              case hc10 =>
                refine ⟨.slice (some ⟨w'.heap.size, 0, none⟩) 1 1, w'.alloc (.cells #[.int .i64 (pn : Int), .int .i64 (qn : Int)] 68), ?_, Ext.alloc (Ext.refl _) _, ⟨w'.heap.size, rfl, rd_block (heap_alloc_new w' (.cells #[.int .i64 (pn : Int), .int .i64 (qn : Int)] 68))⟩⟩
                go_simp
              obtain ⟨_, _, _, B9, rfl, -⟩ := hv10
              simp only [Act.put, List.setIfInBounds_toArray, List.set_cons_succ, List.set_cons_zero, Nat.reduceAdd]
              refine wM_nil ?_
              intro w9 hw9 hF9
              obtain ⟨-, B9', e9, hrd⟩ := hF9 10
              cases e9
              clear hF9
              have HRD := hid hrd
              have OD9 := hid (own_below OD.out (hxu.trans hw9))
              have hxw9 := hx.trans (hxu.trans hw9)
              have hsz9 := hxw9.size
              have HXW := hid hxw9
              have hnb : (out.length + 1) * 16 ≤ 140737488355328 := by omega
              clear OD hrd
              simp only [List.drop_succ_cons, List.drop_zero]
              refine wpList_append_rd2 _ rfl _ _ 22 rfl elem_pair W0.heap.size _ out.length (layPr.rows out) rfl OD9.out (some ⟨B9, 0, none⟩) 1 1 [.int .i64 (pn : Int), .int .i64 (qn : Int)] rfl rfl HRD.out (layPr.rows_one [((pn : Int), (qn : Int))]) hnb hsz9 ?_
              intro D6 k6 W6 own6 hbel6 hgr6 hloc6
              have hxw6 : Ext W0 W6 := Ext.grown HXW.out hgr6 (fun k e => (OD9.out.lt k e).1)
              have OD6 : Hid (W6.ownsRow W0.heap.size 68 2 (.slice D6 (out ++ [((pn : Int), (qn : Int))]).length k6) (out ++ [((pn : Int), (qn : Int))]).length (layPr.rows (out ++ [((pn : Int), (qn : Int))]))) := by
                unfold Hid
                rw [Lay.rows_app, List.length_append]
                exact own6
              have HLN : Hid ((out ++ [((pn : Int), (qn : Int))]).length = out.length + 1) := by unfold Hid; simp
              clear own6 hloc6 hgr6 hbel6 OD9
              go_wp2
              go_roundw
              case rel => exact ⟨k + 1, D6, k6, out ++ [((pn : Int), (qn : Int))], by omega, by omega, by go_num, by rw [HLN.out], HO3, by rw [HLN.out]; omega, OD6, hxw6⟩
              case measure => simp [intOf]; omega
        · have hlk' : ¬ (k : Int) < (l.length : Int) := by omega
          have HO3 : Hid (out ++ pairsM (farM f) ch (l.drop (i + 1)) = N) := by
            unfold Hid
            have h := HO.out
            rw [List.drop_eq_nil_of_le (show l.length ≤ k by omega)] at h
            simpa using h
          clear HO
          go_wp2
          go_roundw
          case rel => exact ⟨i + 1, D, kd, out, by omega, by go_num, rfl, HO3, by omega, OD, hx⟩
          case measure => simp [intOf]; omega
    · have hlt' : ¬ (i : Int) < (l.length : Int) := by omega
      have HE : Hid (out = N) := by
        unfold Hid
        have h := HO.out
        rw [List.drop_eq_nil_of_le (by omega)] at h
        simpa [pairsM] using h
      have HRS : Hid (PrsR wr (.slice D out.length kd) N) := by unfold Hid; rw [← HE.out]; exact ⟨D, kd, rfl, Rd.of_own OD.out⟩
      clear HO HE OD
      go_wp2
      go_ret
      exact ⟨_, rfl, hx0.trans hx, HRS.out⟩
end Go.Proofs.YtpbpcplboikpcaaGreat
