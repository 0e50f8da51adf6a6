/- The one place whose blast leaves the fewest places. No program stands here. The walk of fog.Ask. Printed by my gen_fask.py. The walk of fog.Apart. Printed by my gen_fapart.py. -/
import Derived.Test.YtlonpgbapiemcaaGreatG4
namespace Go.Proofs.YtlonpgbapiemcaaGreat
open Go Go.RowKit
set_option linter.unusedVariables false
set_option linter.unusedSimpArgs false

/-- How many of some places hear a blast. -/
def yesM (h : Int → Bool) (l : List Int) : Int := ((l.filter h).length : Int)
theorem yes_next {h : Int → Bool} {l : List Int} {j : Nat} {x : Int} (hx : l[j]? = some x) : yesM h (l.take (j + 1)) = yesM h (l.take j) + if h x then 1 else 0 := by
  unfold yesM
  rw [List.take_succ_eq_append_getElem (List.getElem?_eq_some_iff.1 hx).1, (List.getElem?_eq_some_iff.1 hx).2, List.filter_append, List.length_append]
  cases hh : h x <;> simp [hh]
theorem yes_le (h : Int → Bool) (l : List Int) : 0 ≤ yesM h l ∧ yesM h l ≤ l.length := by
  unfold yesM
  have := List.length_filter_le h l
  omega
/-- The best of the first places, and how many it leaves at most. -/
def askS (H : Nat → Int → Bool) (l : List Int) : Nat → Int × Int
  | 0 => (0, (l.length : Int) + 1)
  | p + 1 => if max (yesM (H p) l) (l.length - yesM (H p) l) < (askS H l p).2 then ((p : Int), max (yesM (H p) l) (l.length - yesM (H p) l)) else askS H l p
theorem askS_lo (H : Nat → Int → Bool) (l : List Int) : ∀ p, 0 ≤ (askS H l p).2 ∧ (askS H l p).2 ≤ l.length + 1
  | 0 => ⟨by unfold askS; simp; omega, by unfold askS; simp⟩
  | p + 1 => by
    have h1 := askS_lo H l p
    have h2 := yes_le (H p) l
    unfold askS
    split
    · simp only
      omega
    · exact h1
theorem askS_congr {H H' : Nat → Int → Bool} {l : List Int} : ∀ {P : Nat}, (∀ p, p < P → ∀ x ∈ l, H p x = H' p x) → askS H l P = askS H' l P
  | 0, _ => rfl
  | p + 1, h => by
    unfold askS
    rw [askS_congr (P := p) (fun q hq => h q (by omega))]
    have e : yesM (H p) l = yesM (H' p) l := by
      unfold yesM
      rw [List.filter_congr (h p (by omega))]
    rw [e]
def heardH (g : Mat) (n : Int) (p : Nat) (x : Int) : Bool := heardM g ⟨0, (p : Int), n⟩ x.toNat
def askV (f : Fg) (k m n : Int) : Int × Int := if placedE f k m n = 0 then askS (heardH (farM f) n) (placedL f k m n) f.pl.toNat else (0, 0)
end Go.Proofs.YtlonpgbapiemcaaGreat

namespace Go.Proofs.YtlonpgbapiemcaaGreat
open Go Go.RowKit Go.Shelf
set_option linter.unusedVariables false
set_option linter.unusedSimpArgs false

set_option maxRecDepth 100000 in
set_option maxHeartbeats 4000000 in
theorem askx_any (v : Value) (f : Fg) (k m n : Int) (w : World) (hf : FgR w v f) (hs : f.sized) :
    Calls Tryz.prog 131 #[v, .int .i64 k, .int .i64 m, .int .i64 n] w fun e w' => e = .returned (.tuple #[.int .i64 (askV f k m n).1, .int .i64 (askV f k m n).2, .int .i64 (placedE f k m n)]) ∧ Ext w w' := by
  obtain ⟨s, rfl, hr⟩ := hf.rows
  obtain ⟨T, hT⟩ : ∃ T, placedE f k m n = T := ⟨_, rfl⟩
  have HT := hid hT
  obtain ⟨R, hR⟩ : ∃ R, askV f k m n = R := ⟨_, rfl⟩
  have HR := hid hR
  rw [hT, hR]
  clear hT hR
  have HS := hid hs
  have HX0 : Hid (Ext w (w.alloc (.cells #[.int .i64 f.pl, .int .i64 f.mi, .slice s.a1 f.tr.length s.c1, .slice s.a2 f.bl.length s.c2, .slice s.a3 f.ct.length s.c3] 29))) := Ext.alloc (Ext.refl w) _
  show Calls _ _ #[.agg #[.int .i64 f.pl, .int .i64 f.mi, .slice s.a1 f.tr.length s.c1, .slice s.a2 f.bl.length s.c2, .slice s.a3 f.ct.length s.c3], _, _, _] _ _
  go_enter Tryz.func131, Tryz.ntmps131
  go_wp2_with fail
  refine (placed_any (.agg #[.int .i64 f.pl, .int .i64 f.mi, .slice s.a1 f.tr.length s.c1, .slice s.a2 f.bl.length s.c2, .slice s.a3 f.ct.length s.c3]) f k m n _ (FRows.fg (hr.ext HX0.out)) HS.out).mono ?_
  rintro e w1 ⟨r, pv, rfl, hb1, hpv, hr1, hr2⟩
  have hx1 := HX0.out.trans hb1
  have kc0 := hb1.cell (p := ⟨w.heap.size, 0, none⟩) (u := .int .i64 f.pl) (by simp [go_sem])
  clear HX0 hb1
  rw [HT.out]
  obtain ⟨A3, k3, e3, hI3, hk3⟩ := hpv
  subst e3
  by_cases h0 : T = 0
  case neg =>
    have HN2 : Hid (R = (0, 0)) := by unfold Hid; rw [← HR.out]; unfold askV; rw [HT.out, if_neg h0]
    go_wp2
    go_ret3
    exact ⟨by rw [HN2.out]; rfl, hx1⟩
  subst h0
  obtain ⟨D, s2, hrD, hdk, hrk⟩ := hr1 HT.out
  subst hrD
  obtain ⟨hce, hmi, hnB, hlo⟩ := placedE_ok HT.out
  have HOK : Hid (FogOK f) := checkF_ok (cartE_ok hce).1
  have hpl := HOK.out.pl
  have HTV : Hid (R = askS (heardH (farM f) n) (placedL f k m n) f.pl.toNat) := by unfold Hid; rw [← HR.out]; unfold askV; rw [if_pos HT.out]
  have hPL : (∀ x ∈ placedL f k m n, 0 ≤ x ∧ x < 8) ∧ (placedL f k m n).length ≤ 8 := by
    unfold placedL; rw [if_pos HT.out]; exact canN_lt hpl.2 _
  have HPL := hid hPL
  obtain ⟨PL, hPLe⟩ : ∃ PL, placedL f k m n = PL := ⟨_, rfl⟩
  rw [hPLe] at HPL HTV hI3 hk3
  obtain ⟨P, hP⟩ : ∃ P : Nat, f.pl = P := ⟨f.pl.toNat, by omega⟩
  have HP : Hid (f.pl = P ∧ f.pl.toNat = P) := ⟨hP, by omega⟩
  rw [hP] at kc0 hpl
  rw [HP.out.2] at HTV
  have HDK := hid hdk
  try rw [hPLe]
  have hP8 : P ≤ 8 := by omega
  have hl8 := HPL.out.2
  have HI := hid hI3
  obtain ⟨H, hH⟩ : ∃ H, heardH (farM f) n = H := ⟨_, rfl⟩
  rw [hH] at HTV
  have HH := hid hH
  clear hce hmi hnB hlo hr1 hr2 hPL hP hdk hPLe hI3 hH
  go_wp2
  clear kc0
  go_loopw [36, 8, 9] (fun i36 i8 i9 wr => ∃ p : Nat, p ≤ P ∧ i36 = .int .i64 (p : Int) ∧ (∃ S1 S2 : Int, i8 = .int .i64 S1 ∧ i9 = .int .i64 S2 ∧ Hid (askS H PL p = (S1, S2)) ∧ 0 ≤ S2 ∧ S2 ≤ 9) ∧ Ext w1 wr) (fun i _ _ _ => P - (intOf i).toNat)
  case atStart => exact ⟨0, Nat.zero_le _, rfl, ⟨0, (PL.length : Int) + 1, rfl, rfl, rfl, by omega, by omega⟩, Ext.refl _⟩
  case round =>
    obtain ⟨p, hp, rfl, ⟨S1, S2, rfl, rfl, HSS, hS1, hS2⟩, hxr⟩ := hrel
    by_cases hlp : p < P
    · have hlp' : (p : Int) < (P : Int) := by omega
      obtain ⟨V, hV⟩ : ∃ V : World, V = wr := ⟨_, rfl⟩
      subst hV
      go_wp2
      go_loopw [41, 14] (fun i41 i14 wr => ∃ j : Nat, j ≤ PL.length ∧ i41 = .int .i64 (j : Int) ∧ (∃ Y : Int, i14 = .int .i64 Y ∧ Hid (yesM (H p) (PL.take j) = Y) ∧ 0 ≤ Y ∧ Y ≤ j) ∧ Ext V wr) (fun i _ _ => PL.length - (intOf i).toNat)
      case atStart => exact ⟨0, Nat.zero_le _, rfl, ⟨0, rfl, rfl, by omega, by omega⟩, Ext.refl _⟩
      case round =>
        obtain ⟨j, hj, rfl, ⟨Y, rfl, HY, hY0, hY1⟩, hxv⟩ := hrel
        by_cases hlj : j < PL.length
        · have hlj' : (j : Int) < (PL.length : Int) := by omega
          obtain ⟨x, hxj⟩ := get_of_lt PL j hlj
          have hx8 := HPL.out.1 x (mem_of_get hxj)
          obtain ⟨xn, hxn⟩ : ∃ xn : Nat, x = xn := ⟨x.toNat, by omega⟩
          rw [hxn] at hxj hx8
          obtain ⟨b5, o5, e5, g5⟩ := (HI.out.ext (hxr.trans hxv)).at_ hxj
          have HYN := hid (yes_next (h := H p) hxj)
          have K := heard_any D s2 f (farM f) ⟨0, (p : Int), n⟩ xn wr (HDK.out.ext (hxr.trans hxv)) ⟨by show 0 ≤ (p : Int); omega, by show (p : Int) < 8; omega⟩ (by omega)
          have HHX : Hid (heardM (farM f) ⟨0, (p : Int), n⟩ xn = H p xn) := by unfold Hid; rw [← HH.out]; rfl
          have HK := hid K
          clear hxj K hxn hx8
          subst e5
          go_wp2_with fail
          refine HK.out.mono ?_
          clear HK
          rintro e w5 ⟨rfl, hb5⟩
          rw [HHX.out]
          obtain ⟨B, hB⟩ : ∃ B, H p xn = B := ⟨_, rfl⟩
          have HB := hid hB
          rw [hB]
          have hxv9 := hxv.trans hb5
          clear hB g5
          cases B
          · have HY2 : Hid (yesM (H p) (PL.take (j + 1)) = Y) := by unfold Hid; rw [HYN.out, HB.out, HY.out]; simp
            clear HYN HHX HY HB
            go_wp2
            go_roundw
            case rel => exact ⟨j + 1, by omega, by go_num, ⟨Y, rfl, HY2, by omega, by omega⟩, hxv9⟩
            case measure => simp [intOf]; omega
          · have HY2 : Hid (yesM (H p) (PL.take (j + 1)) = Y + 1) := by unfold Hid; rw [HYN.out, HB.out, HY.out]; simp
            clear HYN HHX HY HB
            go_wp2
            go_roundw
            case rel => exact ⟨j + 1, by omega, by go_num, ⟨Y + 1, rfl, HY2, by omega, by omega⟩, hxv9⟩
            case measure => simp [intOf]; omega
        · have hlj' : ¬ (j : Int) < (PL.length : Int) := by omega
          have HYE : Hid (yesM (H p) PL = Y) := by
            have h := HY.out
            rw [List.take_of_length_le (by omega)] at h
            exact h
          have hYl : Y ≤ (PL.length : Int) := by omega
          have HST : Hid (askS H PL (p + 1) = if max Y ((PL.length : Int) - Y) < S2 then ((p : Int), max Y ((PL.length : Int) - Y)) else (S1, S2)) := by
            unfold Hid
            show (if max (yesM (H p) PL) ((PL.length : Int) - yesM (H p) PL) < (askS H PL p).2 then ((p : Int), max (yesM (H p) PL) ((PL.length : Int) - yesM (H p) PL)) else askS H PL p) = _
            rw [HYE.out, HSS.out]
          obtain ⟨Z, hZ⟩ : ∃ Z, max Y ((PL.length : Int) - Y) = Z := ⟨_, rfl⟩
          have hZ0 : 0 ≤ Z := by omega
          have hZ8 : Z ≤ 8 := by omega
          rw [hZ] at HST
          clear HY HYE HSS
          by_cases hm : Y < (PL.length : Int) - Y
          · obtain rfl : Z = (PL.length : Int) - Y := by omega
            by_cases hlt : (PL.length : Int) - Y < S2
            · have HS2 : Hid (askS H PL (p + 1) = ((p : Int), (PL.length : Int) - Y)) := by unfold Hid; rw [HST.out, if_pos hlt]
              clear HST
              go_wp2
              go_roundw
              case rel => exact ⟨p + 1, by omega, by go_num, ⟨p, _, rfl, rfl, HS2, hZ0, by omega⟩, hxr.trans hxv⟩
              case measure => simp [intOf]; omega
            · have HS2 : Hid (askS H PL (p + 1) = (S1, S2)) := by unfold Hid; rw [HST.out, if_neg hlt]
              clear HST
              go_wp2
              go_roundw
              case rel => exact ⟨p + 1, by omega, by go_num, ⟨S1, S2, rfl, rfl, HS2, hS1, hS2⟩, hxr.trans hxv⟩
              case measure => simp [intOf]; omega
          · obtain rfl : Z = Y := by omega
            by_cases hlt : Z < S2
            · have HS2 : Hid (askS H PL (p + 1) = ((p : Int), Z)) := by unfold Hid; rw [HST.out, if_pos hlt]
              clear HST
              go_wp2
              go_roundw
              case rel => exact ⟨p + 1, by omega, by go_num, ⟨p, _, rfl, rfl, HS2, hZ0, by omega⟩, hxr.trans hxv⟩
              case measure => simp [intOf]; omega
            · have HS2 : Hid (askS H PL (p + 1) = (S1, S2)) := by unfold Hid; rw [HST.out, if_neg hlt]
              clear HST
              go_wp2
              go_roundw
              case rel => exact ⟨p + 1, by omega, by go_num, ⟨S1, S2, rfl, rfl, HS2, hS1, hS2⟩, hxr.trans hxv⟩
              case measure => simp [intOf]; omega
    · have hlp' : ¬ (p : Int) < (P : Int) := by omega
      have HE : Hid (R = (S1, S2)) := by unfold Hid; rw [HTV.out, ← HSS.out, show p = P by omega]
      clear HSS
      go_wp2
      go_ret3
      exact ⟨by rw [HE.out]; rfl, hx1.trans hxr⟩
end Go.Proofs.YtlonpgbapiemcaaGreat

namespace Go.Proofs.YtlonpgbapiemcaaGreat
open Go Go.RowKit Go.Shelf
set_option linter.unusedVariables false
set_option linter.unusedSimpArgs false

/-- The error of a choice asked of a cart in a minute. -/
def apartE (f : Fg) (k m : Int) (ch : List (Int × Int)) : Int := if cartE f k ≠ 0 then cartE f k else if miOK f m then (if ch.all fun c => plOK f c.1 then (if ch.all fun c => inB c.2 0 7 then (if lostF (farM f) f (ctAt f k) then 7 else 0) else 3) else 1) else 3
def apartL (f : Fg) (k m : Int) (ch : List (Int × Int)) : List (Int × Int) := if apartE f k m ch = 0 then pairsM (farM f) ch (natI (canN (farM f) f (ctAt f k) m.toNat)) else []
def ApartPost (w : World) (f : Fg) (k m : Int) (ch : List (Int × Int)) (e : Ending) (w' : World) : Prop := ∃ r, e = .returned (.tuple #[r, .int .i64 (apartE f k m ch)]) ∧ Ext w w' ∧ PrsR w' r (apartL f k m ch)
set_option maxRecDepth 100000 in
set_option maxHeartbeats 1000000 in
theorem apart1_fn {A1 A2 A3 : Option Addr} {n1 c1 n2 c2 n3 c3 : Nat} (w : World) (B : Nat) (f : Fg) (vs : Array Value) (h5 : ∀ W, Kc w W → (W.cell? ⟨B, 0, none⟩ = some (.int .i64 f.pl) ∧ W.cell? ⟨B, 1, none⟩ = some (.int .i64 f.mi) ∧ W.cell? ⟨B, 2, none⟩ = some (.slice A1 n1 c1) ∧ W.cell? ⟨B, 3, none⟩ = some (.slice A2 n2 c2) ∧ W.cell? ⟨B, 4, none⟩ = some (.slice A3 n3 c3)) ∧ FgR W (.agg #[.int .i64 f.pl, .int .i64 f.mi, .slice A1 n1 c1, .slice A2 n2 c2, .slice A3 n3 c3]) f) (h1 : 1 ≤ f.pl) (h8 : f.pl ≤ 8) :
    FnP Tryz.prog (.func (.func 195) #[] #[.pointer (some ⟨B, 0, none⟩)]) w PrR anyx (fun c => plOK f c.1) := by
  refine ⟨_, _, _, rfl, enters_of Tryz.func195 (by kernel_rfl) rfl, fun x v W hs hW hR => ?_⟩
  obtain rfl : v = pval x := hR
  have H5 := hid h5
  have e0 := fun o => (H5.out (W.alloc o) (hW.alloc o)).1.1
  have e1 := fun o => (H5.out (W.alloc o) (hW.alloc o)).1.2.1
  have e2 := fun o => (H5.out (W.alloc o) (hW.alloc o)).1.2.2.1
  have e3 := fun o => (H5.out (W.alloc o) (hW.alloc o)).1.2.2.2.1
  have e4 := fun o => (H5.out (W.alloc o) (hW.alloc o)).1.2.2.2.2
  have HFG : Hid (∀ o, FgR (W.alloc o) (.agg #[.int .i64 f.pl, .int .i64 f.mi, .slice A1 n1 c1, .slice A2 n2 c2, .slice A3 n3 c3]) f) := fun o => (H5.out (W.alloc o) (hW.alloc o)).2
  clear h5
  unfold pval
  show Calls _ _ #[_, _] _ _
  go_enter Tryz.func195, Tryz.ntmps195
  go_wp2_with fail
  refine (place_any _ f x.1 _ (HFG.out _) h1 h8).mono ?_
  rintro e w1 ⟨rfl, hb1⟩
  go_wp2
  go_ret
  exact ⟨rfl, (Ext.alloc (Ext.refl W) _).trans hb1⟩
set_option maxRecDepth 100000 in
set_option maxHeartbeats 1000000 in
theorem apart2_fn (w : World) : FnP Tryz.prog (.func (.func 196) #[] #[]) w PrR anyx (fun c => inB c.2 0 7) := by
  refine ⟨_, _, _, rfl, enters_of Tryz.func196 (by kernel_rfl) rfl, fun x v W hs hW hR => ?_⟩
  obtain rfl : v = pval x := hR
  unfold pval
  show Calls _ _ #[_] _ _
  go_enter Tryz.func196, Tryz.ntmps196
  go_wp2_with fail
  refine (in_any _ _ _ _).mono ?_
  rintro e w1 ⟨rfl, hw1⟩
  subst w1
  go_wp2
  go_ret
  exact ⟨rfl, Ext.alloc (Ext.refl _) _⟩
set_option maxRecDepth 100000 in
set_option maxHeartbeats 4000000 in
theorem apart_any (v : Value) (f : Fg) (k m : Int) (AC : Option Addr) (kC : Nat) (ch : List (Int × Int)) (w : World) (hf : FgR w v f) (hs : f.sized) (hCh : Prs w AC ch) (hcl : ch.length ≤ 1000) :
    Calls Tryz.prog 130 #[v, .int .i64 k, .int .i64 m, .slice AC ch.length kC] w (ApartPost w f k m ch) := by
  have hnil := @Lib.run_eql_slice_nil Tryz.prog
  have HCH := hid hCh
  clear hCh
  obtain ⟨s, rfl, hr⟩ := hf.rows
  obtain ⟨T, hT⟩ : ∃ T, cartE f k = T := ⟨_, rfl⟩
  have HT := hid hT
  clear hT
  have HS := hid hs
  have HX0 : Hid (Ext w (w.alloc (.cells #[.int .i64 f.pl, .int .i64 f.mi, .slice s.a1 f.tr.length s.c1, .slice s.a2 f.bl.length s.c2, .slice s.a3 f.ct.length s.c3] 29))) := Ext.alloc (Ext.refl w) _
  show Calls _ _ #[.agg #[.int .i64 f.pl, .int .i64 f.mi, .slice s.a1 f.tr.length s.c1, .slice s.a2 f.bl.length s.c2, .slice s.a3 f.ct.length s.c3], .int .i64 k, .int .i64 m, .slice AC ch.length kC] _ _
  go_enter Tryz.func130, Tryz.ntmps130
  go_wp2_with fail
  refine (carted_any (.agg #[.int .i64 f.pl, .int .i64 f.mi, .slice s.a1 f.tr.length s.c1, .slice s.a2 f.bl.length s.c2, .slice s.a3 f.ct.length s.c3]) f k _ (FRows.fg (hr.ext HX0.out)) HS.out).mono ?_
  rintro e w1 ⟨r, rfl, hb1, hr1, hr2⟩
  have hx1 := HX0.out.trans hb1
  have kc0 := hb1.cell (p := ⟨w.heap.size, 0, none⟩) (u := .int .i64 f.pl) (by simp [go_sem])
  have kc1 := hb1.cell (p := ⟨w.heap.size, 1, none⟩) (u := .int .i64 f.mi) (by simp [go_sem])
  have kc2 := hb1.cell (p := ⟨w.heap.size, 2, none⟩) (u := .slice s.a1 f.tr.length s.c1) (by simp [go_sem])
  have kc3 := hb1.cell (p := ⟨w.heap.size, 3, none⟩) (u := .slice s.a2 f.bl.length s.c2) (by simp [go_sem])
  have kc4 := hb1.cell (p := ⟨w.heap.size, 4, none⟩) (u := .slice s.a3 f.ct.length s.c3) (by simp [go_sem])
  clear HX0 hb1
  rw [HT.out]
  by_cases h0 : T = 0
  case neg =>
    have HE0 : Hid (cartE f k ≠ 0) := by unfold Hid; rw [HT.out]; exact h0
    have hr3 := hr2 HE0.out
    subst hr3
    clear hr1 hr2
    have HN2 : Hid (apartE f k m ch ≠ 0) := by unfold Hid apartE; rw [if_pos HE0.out]; exact HE0.out
    have HN : Hid (apartE f k m ch = T) := by unfold Hid apartE; rw [if_pos HE0.out]; exact HT.out
    have hneT := neqE h0
    go_wp2
    go_ret2
    exact ⟨.slice none 0 0, by rw [HN.out]; rfl, hx1, by unfold apartL; rw [if_neg HN2.out]; exact PrsR.nil _⟩
  subst h0
  obtain ⟨D, s2, hrD, hdk, hrk⟩ := hr1 HT.out
  subst hrD
  clear hr1 hr2
  obtain ⟨hce, hk0, hk1⟩ := cartE_ok HT.out
  have HOK : Hid (FogOK f) := checkF_ok hce
  obtain ⟨kn, rfl⟩ : ∃ kn : Nat, k = kn := ⟨k.toNat, by omega⟩
  have hkl : kn < f.ct.length := by omega
  have hkl' : (kn : Int) < (f.ct.length : Int) := by omega
  obtain ⟨c, hcg⟩ := get_of_lt f.ct kn hkl
  have HCM : Hid (c ∈ f.ct) := mem_of_get hcg
  have HCA : Hid (ctAt f (kn : Int) = c) := by unfold Hid ctAt; rw [Int.toNat_natCast, List.getD_eq_getElem?_getD, hcg]; rfl
  obtain ⟨cb, co, A1, c1, A2, c2, hA3, cc0, cc1, hCS, hCR, hck1, hck2⟩ := (hr.ct.ext hx1).at_ hcg
  have HA3 := hid hA3
  have HDK := hid hdk
  rw [hA3] at kc4
  rw [HA3.out]
  have hcR : CtR w1 (.agg #[.slice A1 c.st.length c1, .slice A2 c.rp.length c2]) c := ⟨A1, c1, A2, c2, rfl, hCS, hCR, hck1, hck2⟩
  clear hk0 hk1 hce hcg hA3 hkl
  go_wp2_with fail
  refine (minute_any (.agg #[.int .i64 f.pl, .int .i64 f.mi, .slice s.a1 f.tr.length s.c1, .slice s.a2 f.bl.length s.c2, .slice (some ⟨cb, co, none⟩) f.ct.length s.c3]) f m w1 (by have := FRows.fg (hr.ext hx1); unfold Ads.val fval at this; rw [HA3.out] at this; exact this)).mono ?_
  rintro e w2 ⟨rfl, hb2⟩
  have hx2 := hx1.trans hb2
  have HFG : Hid (∀ W, Kc w1 W → (W.cell? ⟨w.heap.size, 0, none⟩ = some (.int .i64 f.pl) ∧ W.cell? ⟨w.heap.size, 1, none⟩ = some (.int .i64 f.mi) ∧ W.cell? ⟨w.heap.size, 2, none⟩ = some (.slice s.a1 f.tr.length s.c1) ∧ W.cell? ⟨w.heap.size, 3, none⟩ = some (.slice s.a2 f.bl.length s.c2) ∧ W.cell? ⟨w.heap.size, 4, none⟩ = some (.slice (some ⟨cb, co, none⟩) f.ct.length s.c3)) ∧ FgR W (.agg #[.int .i64 f.pl, .int .i64 f.mi, .slice s.a1 f.tr.length s.c1, .slice s.a2 f.bl.length s.c2, .slice (some ⟨cb, co, none⟩) f.ct.length s.c3]) f) := fun W h =>
    ⟨⟨h.cell kc0, h.cell kc1, h.cell kc2, h.cell kc3, h.cell kc4⟩, by have := FRows.fg (hr.kc (hx1.kc.trans h)); unfold Ads.val fval at this; rw [HA3.out] at this; exact this⟩
  have HCC : Hid (∀ W, Ext w1 W → W.cell? ⟨cb, co + kn * 2, none⟩ = some (.slice A1 c.st.length c1) ∧ W.cell? ⟨cb, co + kn * 2 + 1, none⟩ = some (.slice A2 c.rp.length c2)) := fun W h => ⟨h.cell cc0, h.cell cc1⟩
  have HCE : Hid (cartE f (kn : Int) = 0) := HT
  have hpl := HOK.out.pl
  clear kc0 kc1 kc2 kc3 kc4 cc0 cc1
  cases hq : miOK f m
  · have HN : Hid (apartE f kn m ch = 3) := by unfold Hid apartE; rw [if_neg (fun h => h HCE.out), hq]; rfl
    have HN2 : Hid (apartE f kn m ch ≠ 0) := by unfold Hid; rw [HN.out]; decide
    go_wp2
    go_ret2
    exact ⟨.slice none 0 0, by rw [HN.out]; rfl, hx2, by unfold apartL; rw [if_neg HN2.out]; exact PrsR.nil _⟩
  have hmm := inB_iff.1 hq
  obtain ⟨mn, rfl⟩ : ∃ mn : Nat, m = mn := ⟨m.toNat, by omega⟩
  have HQ := hid hq
  have hmi := HOK.out.mi
  have hmn : mn ≤ f.mi.toNat := by omega
  have hmn' : (mn : Int) < (f.mi.toNat : Int) + 1 := by omega
  clear hq hmm
  have HF1 : Hid (FnP Tryz.prog (.func (.func 195) #[] #[.pointer (some ⟨w.heap.size, 0, none⟩)]) w2 PrR anyx (fun c => plOK f c.1)) := apart1_fn w2 w.heap.size f #[] (fun W h => HFG.out W (hb2.kc.trans h)) hpl.1 hpl.2
  obtain ⟨B1, hB1⟩ : ∃ B1, (ch.all fun c => plOK f c.1) = B1 := ⟨_, rfl⟩
  have K := every_pair AC kC ch _ anyx (fun c => plOK f c.1) w2 (Rows.ext HCH.out hx2) (by omega) (fun _ _ => trivial) HF1.out
  rw [hB1] at K
  have HB1 := hid hB1
  have HK := hid K
  clear K hB1 HF1
  go_wp2_with fail
  refine HK.out.mono ?_
  clear HK
  rintro e w3 ⟨rfl, hb3⟩
  have hb13 := hb2.trans hb3
  have hx3 := hx1.trans hb13
  cases B1
  · have HN : Hid (apartE f kn mn ch = 1) := by unfold Hid apartE; rw [if_neg (fun h => h HCE.out), HQ.out, HB1.out]; rfl
    have HN2 : Hid (apartE f kn mn ch ≠ 0) := by unfold Hid; rw [HN.out]; decide
    go_wp2
    go_ret2
    exact ⟨.slice none 0 0, by rw [HN.out]; rfl, hx3, by unfold apartL; rw [if_neg HN2.out]; exact PrsR.nil _⟩
  obtain ⟨B2, hB2⟩ : ∃ B2, (ch.all fun c => inB c.2 0 7) = B2 := ⟨_, rfl⟩
  have K := every_pair AC kC ch _ anyx (fun c => inB c.2 0 7) w3 (Rows.ext HCH.out hx3) (by omega) (fun _ _ => trivial) (apart2_fn w3)
  rw [hB2] at K
  have HB2 := hid hB2
  have HK := hid K
  clear K hB2
  go_wp2_with fail
  refine HK.out.mono ?_
  clear HK
  rintro e w4 ⟨rfl, hb4⟩
  have hb14 := hb13.trans hb4
  have hx4 := hx1.trans hb14
  cases B2
  · have HN : Hid (apartE f kn mn ch = 3) := by unfold Hid apartE; rw [if_neg (fun h => h HCE.out), HQ.out, HB1.out, HB2.out]; rfl
    have HN2 : Hid (apartE f kn mn ch ≠ 0) := by unfold Hid; rw [HN.out]; decide
    go_wp2
    go_ret2
    exact ⟨.slice none 0 0, by rw [HN.out]; rfl, hx4, by unfold apartL; rw [if_neg HN2.out]; exact PrsR.nil _⟩
  obtain ⟨⟨kc0, kc1, kc2, kc3, kc4⟩, -⟩ := HFG.out w4 hb14.kc
  obtain ⟨cc0, cc1⟩ := HCC.out w4 hb14
  go_wp2_with fail
  refine (can_any D s2 f (farM f) c (.agg #[.slice A1 c.st.length c1, .slice A2 c.rp.length c2]) w4 (HDK.out.ext hb14) (hrk.ext hb14) HOK.out HCM.out (hcR.ext hb14)).mono ?_
  rintro e w5 ⟨vv, rfl, hb5, hl1, hl2⟩
  have hb15 := hb14.trans hb5
  have hx5 := hx1.trans hb15
  clear kc0 kc1 kc2 kc3 kc4 cc0 cc1
  cases hl : lostF (farM f) f c
  · obtain ⟨A9, k9, e9, hI9, hk9⟩ := hl2 hl
    subst e9
    have HN : Hid (apartE f kn mn ch = 0) := by unfold Hid apartE; rw [if_neg (fun h => h HCE.out), HQ.out, HB1.out, HB2.out, HCA.out, hl]; rfl
    obtain ⟨rb, ro, A7, k7, eA9, q0, hI7, hk7⟩ := hI9.at_ (canL_get hmn)
    cases eA9
    have hni := natI_len (canN (farM f) f c mn)
    have HNI := hid hni
    have HAL : Hid (apartL f kn mn ch = pairsM (farM f) ch (natI (canN (farM f) f c mn))) := by unfold Hid apartL; rw [if_pos HN.out, HCA.out, Int.toNat_natCast]
    have hcn := canN_lt (g := farM f) (c := c) hpl.2 mn
    obtain ⟨PL, hPL⟩ : ∃ PL, natI (canN (farM f) f c mn) = PL := ⟨_, rfl⟩
    rw [hPL] at q0 hI7 hk7 HAL hcn
    have HCN := hid hcn
    have HCHP : Hid (∀ x ∈ ch, 0 ≤ x.1 ∧ x.1 < 8) := fun x hx => by
      have h := HB1.out
      rw [List.all_eq_true] at h
      have h2 := h x hx
      unfold plOK at h2
      rw [inB_iff] at h2
      omega
    have K := pairs_any D s2 f (farM f) A7 AC k7 kC PL ch w5 (HDK.out.ext hb15) hI7 (Rows.ext HCH.out hx5) HCN.out.1 HCN.out.2 hk7 HCHP.out (by omega)
    have HK := hid K
    clear hl hl1 hl2 hni K hcn hPL HCHP
    go_wp2_with fail
    refine HK.out.mono ?_
    clear HK
    rintro e w6 ⟨A6, k6, rfl, hb6, hown6⟩
    go_wp2
    go_ret2
    exact ⟨_, by rw [HN.out]; rfl, hx5.trans hb6, by rw [HAL.out]; exact ⟨A6, k6, rfl, Rd.of_own hown6⟩⟩
  · have e9 := hl1 hl
    subst e9
    have HN : Hid (apartE f kn mn ch = 7) := by unfold Hid apartE; rw [if_neg (fun h => h HCE.out), HQ.out, HB1.out, HB2.out, HCA.out, hl]; rfl
    have HN2 : Hid (apartE f kn mn ch ≠ 0) := by unfold Hid; rw [HN.out]; decide
    clear hl hl1 hl2
    go_wp2
    go_ret2
    exact ⟨.slice none 0 0, by rw [HN.out]; rfl, hx5, by unfold apartL; rw [if_neg HN2.out]; exact PrsR.nil _⟩
end Go.Proofs.YtlonpgbapiemcaaGreat
