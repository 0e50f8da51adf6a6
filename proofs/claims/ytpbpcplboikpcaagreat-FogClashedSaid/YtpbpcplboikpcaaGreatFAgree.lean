/- The walk of fog.Agree. Printed by my gen_fagree.py. -/
import Derived.Test.YtpbpcplboikpcaaGreatG4
namespace Go.Proofs.YtpbpcplboikpcaaGreat
open Go Go.RowKit Go.Shelf
set_option linter.unusedVariables false
set_option linter.unusedSimpArgs false

def eqI (a b : Int) : Bool := a == b
/-- The error of a list of reports of a cart. -/
def agreeE (f : Fg) (k : Int) (l : List Int) : Int := if cartE f k ≠ 0 then cartE f k else if l.all fun i => inB i 0 (((ctAt f k).rp.length : Int) - 1) then (if againL eqI [] l then 5 else 0) else 1
def agreeV (f : Fg) (k : Int) (l : List Int) : Bool := decide (agreeE f k l = 0) && agreedM (farM f) f (ctAt f k) l
set_option maxRecDepth 100000 in
set_option maxHeartbeats 1000000 in
theorem agree1_fn (w : World) (B n c2 : Nat) (A2 : Option Addr) (hn : n ≤ 1000) (h : w.cell? ⟨B, 1, none⟩ = some (.slice A2 n c2)) :
    FnP Tryz.prog (.func (.func 126) #[] #[.pointer (some ⟨B, 0, none⟩)]) w IntR anyx (fun i => inB i 0 ((n : Int) - 1)) := by
  refine ⟨_, _, _, rfl, enters_of Tryz.func126 (by kernel_rfl) rfl, fun x v W hs hW hR => ?_⟩
  obtain rfl : v = .int .i64 x := hR
  have h2 := hW.cell h
  show Calls _ _ #[_, _] _ _
  go_enter Tryz.func126, Tryz.ntmps126
  go_wp2_with fail
  refine (in_any _ _ _ _).mono ?_
  rintro e w1 ⟨rfl, hw1⟩
  subst w1
  go_wp2
  go_ret
  exact ⟨rfl, Ext.refl _⟩
set_option maxRecDepth 100000 in
set_option maxHeartbeats 1000000 in
theorem agree2_fn (w : World) : FnP2 Tryz.prog 128 w IntR anyx eqI := by
  refine ⟨enters_of Tryz.func128 (by kernel_rfl) rfl, fun x y v u W _ _ _ hR hR2 => ?_⟩
  obtain rfl : v = .int .i64 x := hR
  obtain rfl : u = .int .i64 y := hR2
  go_enter Tryz.func128, Tryz.ntmps128
  go_wp2
  go_ret
  exact ⟨rfl, Ext.refl _⟩
set_option maxRecDepth 100000 in
set_option maxHeartbeats 4000000 in
theorem agree_any (v : Value) (f : Fg) (k : Int) (AC : Option Addr) (kC : Nat) (l : List Int) (w : World) (hf : FgR w v f) (hs : f.sized) (hL : Ints w AC l) (hll : l.length ≤ 1000) (hlc : l.length ≤ kC) :
    Calls Tryz.prog 31 #[v, .int .i64 k, .slice AC l.length kC] w fun e w' => e = .returned (.tuple #[.bool (agreeV f k l), .int .i64 (agreeE f k l)]) ∧ Ext w w' := by
  have HLI := hid hL
  clear hL
  obtain ⟨VV, hVV⟩ : ∃ VV, agreeV f k l = VV := ⟨_, rfl⟩
  obtain ⟨EE, hEE⟩ : ∃ EE, agreeE f k l = EE := ⟨_, rfl⟩
  have HVV := hid hVV
  have HEE := hid hEE
  rw [hVV, hEE]
  clear hVV hEE
  obtain ⟨s, rfl, hr⟩ := hf.rows
  obtain ⟨T, hT⟩ : ∃ T, cartE f k = T := ⟨_, rfl⟩
  have HT := hid hT
  clear hT
  have HS := hid hs
  have HX0 : Hid (Ext w (w.alloc (.cells #[.int .i64 f.pl, .int .i64 f.mi, .slice s.a1 f.tr.length s.c1, .slice s.a2 f.bl.length s.c2, .slice s.a3 f.ct.length s.c3] 28))) := Ext.alloc (Ext.refl w) _
  show Calls _ _ #[.agg #[.int .i64 f.pl, .int .i64 f.mi, .slice s.a1 f.tr.length s.c1, .slice s.a2 f.bl.length s.c2, .slice s.a3 f.ct.length s.c3], .int .i64 k, .slice AC l.length kC] _ _
  go_enter Tryz.func31, Tryz.ntmps31
  go_wp2_with fail
  refine (carted_any (.agg #[.int .i64 f.pl, .int .i64 f.mi, .slice s.a1 f.tr.length s.c1, .slice s.a2 f.bl.length s.c2, .slice s.a3 f.ct.length s.c3]) f k _ (FRows.fg (hr.ext HX0.out)) HS.out).mono ?_
  rintro e w1 ⟨r, rfl, hb1, hr1, hr2⟩
  have hx1 := HX0.out.trans hb1
  have kc0 := hb1.cell (p := ⟨w.heap.size, 0, none⟩) (u := .int .i64 f.pl) (by simp [go_sem])
  have kc1 := hb1.cell (p := ⟨w.heap.size, 1, none⟩) (u := .int .i64 f.mi) (by simp [go_sem])
  have kc2 := hb1.cell (p := ⟨w.heap.size, 2, none⟩) (u := .slice s.a1 f.tr.length s.c1) (by simp [go_sem])
  have kc3 := hb1.cell (p := ⟨w.heap.size, 3, none⟩) (u := .slice s.a2 f.bl.length s.c2) (by simp [go_sem])
  have kc4 := hb1.cell (p := ⟨w.heap.size, 4, none⟩) (u := .slice s.a3 f.ct.length s.c3) (by simp [go_sem])
  clear HX0 hb1
  rw [HT.out]
  by_cases h0 : T = 0
  case neg =>
    have HE0 : Hid (cartE f k ≠ 0) := by unfold Hid; rw [HT.out]; exact h0
    have hr3 := hr2 HE0.out
    subst hr3
    clear hr1 hr2
    have HN : Hid (EE = T) := by unfold Hid; rw [← HEE.out]; unfold agreeE; rw [if_pos HE0.out, HT.out]
    have HN2 : Hid (VV = false) := by unfold Hid; rw [← HVV.out]; unfold agreeV; rw [HEE.out, HN.out]; simp [h0]
    have hneT := neqE h0
    go_wp2
    go_ret2
    exact ⟨by rw [HN.out, HN2.out]; rfl, hx1⟩
  subst h0
  obtain ⟨D, s2, hrD, hdk, hrk⟩ := hr1 HT.out
  subst hrD
  clear hr1 hr2
  obtain ⟨hce, hk0, hk1⟩ := cartE_ok HT.out
  have HOK : Hid (FogOK f) := checkF_ok hce
  obtain ⟨kn, rfl⟩ : ∃ kn : Nat, k = kn := ⟨k.toNat, by omega⟩
  have hkl : kn < f.ct.length := by omega
  have hkl' : (kn : Int) < (f.ct.length : Int) := by omega
  obtain ⟨c, hcg⟩ := get_of_lt f.ct kn hkl
  have HCM : Hid (c ∈ f.ct) := mem_of_get hcg
  have HCA : Hid (ctAt f (kn : Int) = c) := by unfold Hid ctAt; rw [Int.toNat_natCast, List.getD_eq_getElem?_getD, hcg]; rfl
  obtain ⟨cb, co, A1, c1, A2, c2, hA3, cc0, cc1, hCS, hCR, hck1, hck2⟩ := (hr.ct.ext hx1).at_ hcg
  have HA3 := hid hA3
  have HDK := hid hdk
  rw [hA3] at kc4
  rw [HA3.out]
  have hcR : CtR w1 (.agg #[.slice A1 c.st.length c1, .slice A2 c.rp.length c2]) c := ⟨A1, c1, A2, c2, rfl, hCS, hCR, hck1, hck2⟩
  clear hk0 hk1 hce hcg hA3 hkl
  have hpl := HOK.out.pl
  have hrn := HOK.out.rn c HCM.out
  have HCE : Hid (cartE f (kn : Int) = 0) := HT
  obtain ⟨B1, hB1⟩ : ∃ B1, (l.all fun i => inB i 0 ((c.rp.length : Int) - 1)) = B1 := ⟨_, rfl⟩
  have HB1 := hid hB1
  clear hB1
  obtain ⟨W2, hW2⟩ : ∃ W2, w1.alloc (.cells #[.slice A1 c.st.length c1, .slice A2 c.rp.length c2] 62) = W2 := ⟨_, rfl⟩
  have hx12 : Ext w1 W2 := by rw [← hW2]; exact Ext.alloc (Ext.refl _) _
  have g0 : W2.cell? ⟨w1.heap.size, 0, none⟩ = some (.slice A1 c.st.length c1) := by rw [← hW2]; simp [go_sem]
  have g1 : W2.cell? ⟨w1.heap.size, 1, none⟩ = some (.slice A2 c.rp.length c2) := by rw [← hW2]; simp [go_sem]
  have hx2 := hx1.trans hx12
  have K := every_int AC kC l _ anyx (fun i => inB i 0 ((c.rp.length : Int) - 1)) W2 (HLI.out.ext hx2) (by omega) (fun _ _ => trivial) (agree1_fn W2 w1.heap.size c.rp.length c2 A2 (by omega) g1)
  rw [HB1.out] at K
  have HK := hid K
  have G0 := hid g0
  have G1 := hid g1
  clear K g0 g1
  go_wp2_with fail
  try rw [hW2]
  clear hW2
  refine HK.out.mono ?_
  clear HK
  rintro e w3 ⟨rfl, hb3⟩
  have hx3 := hx2.trans hb3
  cases B1
  · have HN : Hid (EE = 1) := by unfold Hid; rw [← HEE.out]; unfold agreeE; rw [if_neg (fun h => h HCE.out), HCA.out, HB1.out]; rfl
    have HN2 : Hid (VV = false) := by unfold Hid; rw [← HVV.out]; unfold agreeV; rw [HEE.out, HN.out]; rfl
    go_wp2
    go_ret2
    exact ⟨by rw [HN.out, HN2.out]; rfl, hx3⟩
  obtain ⟨B2, hB2⟩ : ∃ B2, againL eqI [] l = B2 := ⟨_, rfl⟩
  have K := again_int AC kC l _ anyx eqI w3 (HLI.out.ext hx3) (by omega) (fun _ _ => trivial) (agree2_fn w3) hlc
  rw [hB2] at K
  have HB2 := hid hB2
  have HK := hid K
  clear K hB2
  go_wp2_with fail
  refine HK.out.mono ?_
  clear HK
  rintro e w4 ⟨rfl, hb4⟩
  have hx4 := hx3.trans hb4
  cases B2
  · have HN : Hid (EE = 0) := by unfold Hid; rw [← HEE.out]; unfold agreeE; rw [if_neg (fun h => h HCE.out), HCA.out, HB1.out, HB2.out]; rfl
    have HN2 : Hid (VV = agreedM (farM f) f c l) := by unfold Hid; rw [← HVV.out]; unfold agreeV; rw [HEE.out, HN.out, HCA.out]; rfl
    have c0 := (hb3.trans hb4).cell G0.out
    have c1' := (hb3.trans hb4).cell G1.out
    have hx14 := hx12.trans (hb3.trans hb4)
    go_wp2_with fail
    refine (agreed_any D s2 f (farM f) c (.agg #[.slice A1 c.st.length c1, .slice A2 c.rp.length c2]) AC kC l w4 (HDK.out.ext hx14) (hrk.ext hx14) HOK.out HCM.out (hcR.ext hx14) (HLI.out.ext hx4) (by omega)).mono ?_
    rintro e w5 ⟨rfl, hb5⟩
    go_wp2
    go_ret2
    exact ⟨by rw [HN.out, HN2.out]; rfl, hx4.trans hb5⟩
  · have HN : Hid (EE = 5) := by unfold Hid; rw [← HEE.out]; unfold agreeE; rw [if_neg (fun h => h HCE.out), HCA.out, HB1.out, HB2.out]; rfl
    have HN2 : Hid (VV = false) := by unfold Hid; rw [← HVV.out]; unfold agreeV; rw [HEE.out, HN.out]; rfl
    go_wp2
    go_ret2
    exact ⟨by rw [HN.out, HN2.out]; rfl, hx4⟩
end Go.Proofs.YtpbpcplboikpcaaGreat
