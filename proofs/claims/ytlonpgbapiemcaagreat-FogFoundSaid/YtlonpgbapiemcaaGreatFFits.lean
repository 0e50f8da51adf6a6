/- The walks of desk.hears and fog.Fits. Printed by my gen_ffits.py. -/
import Derived.Test.YtlonpgbapiemcaaGreatG4
import Derived.Test.YtlonpgbapiemcaaGreatFFitP
import Derived.Deep.DeepCutAuto
import Derived.Deep.CutBlock
namespace Go.Proofs.YtlonpgbapiemcaaGreat
open Go Go.RowKit Go.Shelf
set_option linter.unusedVariables false
set_option linter.unusedSimpArgs false

set_option maxRecDepth 100000 in
set_option maxHeartbeats 1000000 in
theorem hearsc_any (D bb bo bn nb c2 wb wo ln kW m p : Nat) (g : Mat) (x : Bl) (w : World) (hB : w.cell? ⟨D, 3, none⟩ = some (.slice (some ⟨bb, bo, none⟩) nb c2)) (hbn : bn < nb)
    (b0 : w.cell? ⟨bb, bo + bn * 3, none⟩ = some (.int .i64 x.mi)) (b1 : w.cell? ⟨bb, bo + bn * 3 + 1, none⟩ = some (.int .i64 x.pl)) (b2 : w.cell? ⟨bb, bo + bn * 3 + 2, none⟩ = some (.int .i64 x.lo))
    (hm : x.mi = (m : Int)) (hml : m < ln) (hp : w.cell? ⟨wb, wo + m, none⟩ = some (.int .i64 (p : Int))) (hp8 : p < 8) (hpl : 0 ≤ x.pl ∧ x.pl < 8) (hd : w.cell? ⟨D, 5 + x.pl.toNat * 8 + p, none⟩ = some (.int .i64 (g x.pl.toNat p))) :
    Calls Tryz.prog 92 #[.pointer (some ⟨D, 0, none⟩), .slice (some ⟨wb, wo, none⟩) ln kW, .int .i64 (bn : Int)] w fun e w' => e = .returned (.bool (heardM g x p)) ∧ Ext w w' := by
  obtain ⟨xm, xp, xl⟩ := x
  simp only at b0 b1 b2 hm hpl hd
  subst hm
  obtain ⟨F, hF⟩ : ∃ F, heardM g ⟨(m : Int), xp, xl⟩ p = F := ⟨_, rfl⟩
  have HF := hid hF
  rw [hF]
  clear hF
  have hbn' : (bn : Int) < (nb : Int) := by omega
  have hml' : (m : Int) < (ln : Int) := by omega
  obtain ⟨W1, hW1⟩ : ∃ W1, w.alloc (.cells #[.int .i64 (m : Int), .int .i64 xp, .int .i64 xl] 39) = W1 := ⟨_, rfl⟩
  have hx1 : Ext w W1 := by rw [← hW1]; exact Ext.alloc (Ext.refl _) _
  have FX : Hid (∀ w', Ext W1 w' → w'.cell? ⟨w.heap.size, 0, none⟩ = some (.int .i64 (m : Int)) ∧ w'.cell? ⟨w.heap.size, 1, none⟩ = some (.int .i64 xp) ∧ w'.cell? ⟨w.heap.size, 2, none⟩ = some (.int .i64 xl) ∧ w'.cell? ⟨wb, wo + m, none⟩ = some (.int .i64 (p : Int))) := fun w' h => ⟨h.cell (by rw [← hW1]; simp [go_sem]), h.cell (by rw [← hW1]; simp [go_sem]), h.cell (by rw [← hW1]; simp [go_sem]), h.cell (hx1.cell hp)⟩
  have FD : Hid (∀ w', Ext W1 w' → w'.cell? ⟨D, 5 + xp.toNat * 8 + p, none⟩ = some (.int .i64 (g xp.toNat p))) := fun w' h => h.cell (hx1.cell hd)
  clear hp hd
  go_enter Tryz.func92, Tryz.ntmps92
  go_wp2
  try rw [hW1]
  clear hW1 b0 b1 b2 hB
  refine wp_region_shut Ext (fun w' => Ext W1 w') (fun
    | 7 => some (fun v _ => v = .bool (heardM g ⟨(m : Int), xp, xl⟩ p))
    | _ => none) (by kernel_rfl) (by kernel_rfl) (fun _ _ h k => h.trans k) ?hT (Ext.drew (Ext.refl W1)) ?_
  case hT =>
    intro i R hR
    match i, hR with
    | 7, hR => cases hR; exact fun _ _ _ h _ => h
  refine wM_val ?ua0 rfl rfl Ext.refl (fun w' hD => ?ha0) (fun pha0 => ?na0)
  case ha0 =>
    obtain ⟨d0, d1, d2, d3⟩ := FX.out w' hD.1
    go_simp; rfl
  simp only [Act.put, List.setIfInBounds_toArray, List.set_cons_succ, List.set_cons_zero, Nat.reduceAdd]
  refine wM_val ?ua1 rfl rfl Ext.refl (fun w' hD => ?ha1) (fun pha1 => ?na1)
  case ha1 =>
    obtain ⟨d0, d1, d2, d3⟩ := FX.out w' hD.1
    go_simp; rfl
  simp only [Act.put, List.setIfInBounds_toArray, List.set_cons_succ, List.set_cons_zero, Nat.reduceAdd]
  refine wM_val ?ua2 rfl rfl Ext.refl (fun w' hD => ?ha2) (fun pha2 => ?na2)
  case ha2 =>
    obtain ⟨d0, d1, d2, d3⟩ := FX.out w' hD.1
    go_simp; rfl
  simp only [Act.put, List.setIfInBounds_toArray, List.set_cons_succ, List.set_cons_zero, Nat.reduceAdd]
  refine wM_val ?ua3 rfl rfl Ext.refl (fun w' hD => ?ha3) (fun pha3 => ?na3)
  case ha3 =>
    obtain ⟨d0, d1, d2, d3⟩ := FX.out w' hD.1
    go_simp; rfl
  simp only [Act.put, List.setIfInBounds_toArray, List.set_cons_succ, List.set_cons_zero, Nat.reduceAdd]
  refine wM_val ?ua4 rfl rfl Ext.refl (fun w' hD => ?ha4) (fun pha4 => ?na4)
  case ha4 =>
    obtain ⟨d0, d1, d2, d3⟩ := FX.out w' hD.1
    go_simp; rfl
  simp only [Act.put, List.setIfInBounds_toArray, List.set_cons_succ, List.set_cons_zero, Nat.reduceAdd]
  refine wM_val ?ua5 rfl rfl Ext.refl (fun w' hD => ?ha5) (fun pha5 => ?na5)
  case ha5 =>
    obtain ⟨d0, d1, d2, d3⟩ := FX.out w' hD.1
    go_simp; rfl
  simp only [Act.put, List.setIfInBounds_toArray, List.set_cons_succ, List.set_cons_zero, Nat.reduceAdd]
  refine wM_val ?ua6 rfl rfl Ext.refl (fun w' hD => ?ha6) (fun pha6 => ?na6)
  case ha6 =>
    obtain ⟨d0, d1, d2, d3⟩ := FX.out w' hD.1
    go_simp; rfl
  simp only [Act.put, List.setIfInBounds_toArray, List.set_cons_succ, List.set_cons_zero, Nat.reduceAdd]
  refine wM_op _ rfl rfl (opens_call ?fa7 ?ga7 (fun w' hD => ?ha7) (fun w' hD => ?ca7)) (fun v7 hv7 => ?na7)
  case ha7 => go_simp; constructor <;> rfl
  case ca7 =>
    refine (heardc_any D g ⟨(m : Int), xp, xl⟩ p w' (FD.out w' hD.1) hpl hp8).mono ?_
    rintro e w2 ⟨rfl, hb⟩
    exact ⟨_, rfl, hb, rfl⟩
  obtain ⟨_, -, -, rfl⟩ := hv7
  simp only [Act.put, List.setIfInBounds_toArray, List.set_cons_succ, List.set_cons_zero, Nat.reduceAdd]
  refine wM_val ?ua8 rfl rfl Ext.refl (fun w' hD => ?ha8) (fun pha8 => ?na8)
  case ha8 =>
    obtain ⟨d0, d1, d2, d3⟩ := FX.out w' hD.1
    go_simp; rfl
  simp only [Act.put, List.setIfInBounds_toArray, List.set_cons_succ, List.set_cons_zero, Nat.reduceAdd]
  refine wM_nil ?_
  intro w9 hw9 hF9
  clear hF9 FX FD
  rw [HF.out]
  go_wp2
  go_ret
  exact ⟨rfl, hx1.trans hw9⟩
theorem wl_get {l : List Int} {m : Nat} {x : Int} (h : l[m]? = some x) (h0 : 0 ≤ x) : (wlAt l m : Int) = x := by
  unfold wlAt; rw [List.getD_eq_getElem?_getD, h]; simp; omega
theorem wl_lt {f : Fg} (h8 : f.pl ≤ 8) {l : List Int} (h : l.all (plOK f) = true) {m : Nat} (hm : m < l.length) : l[m]? = some (wlAt l m : Int) ∧ wlAt l m < 8 ∧ wlAt l m < f.pl.toNat := by
  have h1 := getD_all h hm
  rw [plOK_iff2] at h1
  have e : l[m]? = some (l.getD m 0) := by rw [List.getD_eq_getElem?_getD, List.getElem?_eq_getElem hm]; rfl
  refine ⟨?_, by unfold wlAt; omega, by unfold wlAt; omega⟩
  rw [e]; unfold wlAt; congr 1; omega
set_option maxRecDepth 100000 in
set_option maxHeartbeats 1000000 in
theorem fits1_fn (w : World) (Bd Bw D wb wo kW : Nat) (s : Ads) (f : Fg) (g : Mat) (c : Ct) (l : List Int) (hd : Dk w D s f g) (hr : FRows w s f) (hok : FogOK f) (hcm : c ∈ f.ct) (hB : w.cell? ⟨Bd, 0, none⟩ = some (.pointer (some ⟨D, 0, none⟩)))
    (hW0 : w.cell? ⟨Bw, 0, none⟩ = some (.slice (some ⟨wb, wo, none⟩) l.length kW)) (hL : ∀ j x, l[j]? = some x → w.cell? ⟨wb, wo + j, none⟩ = some (.int .i64 x)) (hln : l.length = f.mi.toNat + 1) (hall : l.all (plOK f) = true) :
    FnP Tryz.prog (.func (.func 91) #[] #[.pointer (some ⟨Bd, 0, none⟩), .pointer (some ⟨Bw, 0, none⟩)]) w RpR (fun r => r ∈ c.rp) (fun r => hearsL2 g f l r.bl == r.hd) := by
  refine ⟨_, _, _, rfl, enters_of Tryz.func91 (by kernel_rfl) rfl, fun r v W hs hW hR => ?_⟩
  obtain rfl : v = r.val := hR
  obtain ⟨hbm, hb1, hb2⟩ := blAt_mi hok hcm hs
  have hrr := hok.rp c hcm r hs
  obtain ⟨bn, hbne⟩ : ∃ bn : Nat, r.bl = bn := ⟨r.bl.toNat, by omega⟩
  have hbn : bn < f.bl.length := by omega
  obtain ⟨x, hxg⟩ := get_of_lt f.bl bn hbn
  have hxe : blAt f r.bl = x := blAt_get (by rw [hbne]; simpa using hxg)
  obtain ⟨bb, bo, hA2, c0, c1, c2⟩ := Blasts.at_ hr.bl hxg
  have hxok := hok.bl x (mem_of_get hxg)
  have hpl8 := hok.pl
  have hmi8 := hok.mi
  obtain ⟨mn, hxm⟩ : ∃ mn : Nat, x.mi = mn := ⟨x.mi.toNat, by omega⟩
  have hmn : mn < l.length := by omega
  obtain ⟨hg, hp8, -⟩ := wl_lt hpl8.2 hall hmn
  have hxp : 0 ≤ x.pl ∧ x.pl < 8 := by omega
  have k3 := hd.bl
  rw [hA2] at k3
  have HFF : Hid (hearsL2 g f l r.bl = heardM g x (wlAt l mn)) := by unfold Hid hearsL2; rw [hxe, hxm, Int.toNat_natCast]
  obtain ⟨W1, hW1⟩ : ∃ W1, W.alloc (.cells #[.int .i64 (bn : Int), .bool r.hd] 82) = W1 := ⟨_, rfl⟩
  have hx1 : Ext W W1 := by rw [← hW1]; exact Ext.alloc (Ext.refl _) _
  have FX : Hid (∀ w', Ext W1 w' → w'.cell? ⟨W.heap.size, 0, none⟩ = some (.int .i64 (bn : Int)) ∧ w'.cell? ⟨W.heap.size, 1, none⟩ = some (.bool r.hd) ∧ w'.cell? ⟨Bd, 0, none⟩ = some (.pointer (some ⟨D, 0, none⟩)) ∧ w'.cell? ⟨Bw, 0, none⟩ = some (.slice (some ⟨wb, wo, none⟩) l.length kW)) := fun w' h => ⟨h.cell (by rw [← hW1]; simp [go_sem]), h.cell (by rw [← hW1]; simp [go_sem]), h.cell (hx1.cell (hW.cell hB)), h.cell (hx1.cell (hW.cell hW0))⟩
  have FY : Hid (∀ w', Ext W1 w' → w'.cell? ⟨D, 3, none⟩ = some (.slice (some ⟨bb, bo, none⟩) f.bl.length s.c2) ∧ w'.cell? ⟨bb, bo + bn * 3, none⟩ = some (.int .i64 x.mi) ∧ w'.cell? ⟨bb, bo + bn * 3 + 1, none⟩ = some (.int .i64 x.pl) ∧ w'.cell? ⟨bb, bo + bn * 3 + 2, none⟩ = some (.int .i64 x.lo) ∧ w'.cell? ⟨wb, wo + mn, none⟩ = some (.int .i64 (wlAt l mn : Int)) ∧ w'.cell? ⟨D, 5 + x.pl.toNat * 8 + wlAt l mn, none⟩ = some (.int .i64 (g x.pl.toNat (wlAt l mn)))) := fun w' h =>
    ⟨h.cell (hx1.cell (hW.cell k3)), h.cell (hx1.cell (hW.cell c0)), h.cell (hx1.cell (hW.cell c1)), h.cell (hx1.cell (hW.cell c2)), h.cell (hx1.cell (hW.cell (hL _ _ hg))), h.cell (hx1.cell (hW.cell (hd.at_ (by omega) hp8)))⟩
  obtain ⟨F, hF⟩ : ∃ F, (hearsL2 g f l r.bl == r.hd) = F := ⟨_, rfl⟩
  have HF := hid hF
  simp only [hF]
  unfold Rp.val
  rw [hbne]
  have HXM := hid hxm
  clear hF hB hW0 k3 c0 c1 c2 hA2 hg hxm hbne hxe hln hxg hL
  show Calls _ _ #[_, _, _] _ _
  go_enter Tryz.func91, Tryz.ntmps91
  go_wp2
  try rw [hW1]
  clear hW1
  refine wp_region_shut Ext (fun w' => Ext W1 w') (fun
    | 4 => some (fun v _ => v = .bool (heardM g x (wlAt l mn)))
    | _ => none) (by kernel_rfl) (by kernel_rfl) (fun _ _ h k => h.trans k) ?hT (Ext.drew (Ext.refl W1)) ?_
  case hT =>
    intro i R hR
    match i, hR with
    | 4, hR => cases hR; exact fun _ _ _ h _ => h
  refine wM_val ?ub0 rfl rfl Ext.refl (fun w' hD => ?hb0) (fun phb0 => ?nb0)
  case hb0 =>
    obtain ⟨d0, d1, d2, d3⟩ := FX.out w' hD.1
    go_simp; rfl
  simp only [Act.put, List.setIfInBounds_toArray, List.set_cons_succ, List.set_cons_zero, Nat.reduceAdd]
  refine wM_val ?ub1 rfl rfl Ext.refl (fun w' hD => ?hb1) (fun phb1 => ?nb1)
  case hb1 =>
    obtain ⟨d0, d1, d2, d3⟩ := FX.out w' hD.1
    go_simp; rfl
  simp only [Act.put, List.setIfInBounds_toArray, List.set_cons_succ, List.set_cons_zero, Nat.reduceAdd]
  refine wM_val ?ub2 rfl rfl Ext.refl (fun w' hD => ?hb2) (fun phb2 => ?nb2)
  case hb2 =>
    obtain ⟨d0, d1, d2, d3⟩ := FX.out w' hD.1
    go_simp; rfl
  simp only [Act.put, List.setIfInBounds_toArray, List.set_cons_succ, List.set_cons_zero, Nat.reduceAdd]
  refine wM_val ?ub3 rfl rfl Ext.refl (fun w' hD => ?hb3) (fun phb3 => ?nb3)
  case hb3 =>
    obtain ⟨d0, d1, d2, d3⟩ := FX.out w' hD.1
    go_simp; rfl
  simp only [Act.put, List.setIfInBounds_toArray, List.set_cons_succ, List.set_cons_zero, Nat.reduceAdd]
  refine wM_op _ rfl rfl (opens_call ?fb4 ?gb4 (fun w' hD => ?hb4) (fun w' hD => ?cb4)) (fun v4 hv4 => ?nb4)
  case hb4 => go_simp; constructor <;> rfl
  case cb4 =>
    refine (hearsc_any D bb bo bn f.bl.length s.c2 wb wo l.length kW mn (wlAt l mn) g x w' (FY.out w' hD.1).1 hbn (FY.out w' hD.1).2.1 (FY.out w' hD.1).2.2.1 (FY.out w' hD.1).2.2.2.1 HXM.out hmn (FY.out w' hD.1).2.2.2.2.1 hp8 hxp (FY.out w' hD.1).2.2.2.2.2).mono ?_
    rintro e w2 ⟨rfl, hb⟩
    exact ⟨_, rfl, hb, rfl⟩
  obtain ⟨_, -, -, rfl⟩ := hv4
  simp only [Act.put, List.setIfInBounds_toArray, List.set_cons_succ, List.set_cons_zero, Nat.reduceAdd]
  refine wM_val ?ub5 rfl rfl Ext.refl (fun w' hD => ?hb5) (fun phb5 => ?nb5)
  case hb5 =>
    obtain ⟨d0, d1, d2, d3⟩ := FX.out w' hD.1
    go_simp; rfl
  simp only [Act.put, List.setIfInBounds_toArray, List.set_cons_succ, List.set_cons_zero, Nat.reduceAdd]
  refine wM_val ?ub6 rfl rfl Ext.refl (fun w' hD => ?hb6) (fun phb6 => ?nb6)
  case hb6 =>
    obtain ⟨d0, d1, d2, d3⟩ := FX.out w' hD.1
    go_simp; rfl
  simp only [Act.put, List.setIfInBounds_toArray, List.set_cons_succ, List.set_cons_zero, Nat.reduceAdd]
  refine wM_val ?ub7 rfl rfl Ext.refl (fun w' hD => ?hb7) (fun phb7 => ?nb7)
  case hb7 =>
    obtain ⟨d0, d1, d2, d3⟩ := FX.out w' hD.1
    go_simp; rfl
  simp only [Act.put, List.setIfInBounds_toArray, List.set_cons_succ, List.set_cons_zero, Nat.reduceAdd]
  refine wM_val ?ub8 rfl rfl Ext.refl (fun w' hD => ?hb8) (fun phb8 => ?nb8)
  case hb8 =>
    obtain ⟨d0, d1, d2, d3⟩ := FX.out w' hD.1
    go_simp; rfl
  simp only [Act.put, List.setIfInBounds_toArray, List.set_cons_succ, List.set_cons_zero, Nat.reduceAdd]
  refine wM_nil ?_
  intro w9 hw9 hF9
  clear hF9 FX FY
  go_wp2
  go_ret
  exact ⟨ret_of (bool_of (by rw [← HF.out, HFF.out])), hx1.trans hw9⟩

def fitsV (f : Fg) (k : Int) (l : List Int) : Bool := decide (cartE f k = 0) && fitsM (farM f) f (ctAt f k) l
set_option maxRecDepth 100000 in
set_option maxHeartbeats 8000000 in
theorem fitsx_any (v : Value) (f : Fg) (k : Int) (AW : Option Addr) (kW : Nat) (l : List Int) (w : World) (hf : FgR w v f) (hs : f.sized) (hW : Ints w AW l) (hll : l.length ≤ 1000) (hlc : l.length ≤ kW) :
    Calls Tryz.prog 23 #[v, .int .i64 k, .slice AW l.length kW] w fun e w' => e = .returned (.tuple #[.bool (fitsV f k l), .int .i64 (cartE f k)]) ∧ Ext w w' := by
  have HWI := hid hW
  clear hW
  obtain ⟨VV, hVV⟩ : ∃ VV, fitsV f k l = VV := ⟨_, rfl⟩
  obtain ⟨EE, hEE⟩ : ∃ EE, cartE f k = EE := ⟨_, rfl⟩
  have HVV := hid hVV
  have HEE := hid hEE
  rw [hVV, hEE]
  clear hVV hEE
  obtain ⟨s, rfl, hr⟩ := hf.rows
  obtain ⟨T, hT⟩ : ∃ T, cartE f k = T := ⟨_, rfl⟩
  have HT := hid hT
  clear hT
  have HS := hid hs
  have HX0 : Hid (Ext w ((w.alloc (.cells #[.int .i64 f.pl, .int .i64 f.mi, .slice s.a1 f.tr.length s.c1, .slice s.a2 f.bl.length s.c2, .slice s.a3 f.ct.length s.c3] 29)).alloc (.cells #[.slice AW l.length kW] 37))) := (Ext.alloc (Ext.refl w) _).alloc _
  show Calls _ _ #[.agg #[.int .i64 f.pl, .int .i64 f.mi, .slice s.a1 f.tr.length s.c1, .slice s.a2 f.bl.length s.c2, .slice s.a3 f.ct.length s.c3], .int .i64 k, .slice AW l.length kW] _ _
  go_enter Tryz.func23, Tryz.ntmps23
  go_wp2_with fail
  refine (carted_any (.agg #[.int .i64 f.pl, .int .i64 f.mi, .slice s.a1 f.tr.length s.c1, .slice s.a2 f.bl.length s.c2, .slice s.a3 f.ct.length s.c3]) f k _ (FRows.fg (hr.ext HX0.out)) HS.out).mono ?_
  rintro e w1 ⟨r, rfl, hb1, hr1, hr2⟩
  have hx1 := HX0.out.trans hb1
  have kc0 := hb1.cell (p := ⟨w.heap.size, 0, none⟩) (u := .int .i64 f.pl) (by simp [go_sem])
  have kc1 := hb1.cell (p := ⟨w.heap.size, 1, none⟩) (u := .int .i64 f.mi) (by simp [go_sem])
  have kc2 := hb1.cell (p := ⟨w.heap.size, 2, none⟩) (u := .slice s.a1 f.tr.length s.c1) (by simp [go_sem])
  have kc3 := hb1.cell (p := ⟨w.heap.size, 3, none⟩) (u := .slice s.a2 f.bl.length s.c2) (by simp [go_sem])
  have kc4 := hb1.cell (p := ⟨w.heap.size, 4, none⟩) (u := .slice s.a3 f.ct.length s.c3) (by simp [go_sem])
  have kw := hb1.cell (p := ⟨w.heap.size + 1, 0, none⟩) (u := .slice AW l.length kW) (by simp [go_sem])
  clear HX0 hb1
  rw [HT.out]
  by_cases h0 : T = 0
  case neg =>
    have HE0 : Hid (cartE f k ≠ 0) := by unfold Hid; rw [HT.out]; exact h0
    have hr3 := hr2 HE0.out
    subst hr3
    clear hr1 hr2
    have HN : Hid (VV = false) := by unfold Hid; rw [← HVV.out]; unfold fitsV; simp [HE0.out]
    have hneT := neqE h0
    have hxa : Ext w1 (w1.alloc (.cells #[.pointer none] 101)) := Ext.alloc (Ext.refl _) _
    go_wp2
    go_ret2
    exact ⟨by rw [HN.out, ← HEE.out, HT.out]; rfl, hx1.trans hxa⟩
  subst h0
  obtain ⟨D, s2, hrD, hdk, hrk⟩ := hr1 HT.out
  subst hrD
  clear hr1 hr2
  obtain ⟨hce, hk0, hk1⟩ := cartE_ok HT.out
  have HOK : Hid (FogOK f) := checkF_ok hce
  obtain ⟨kn, rfl⟩ : ∃ kn : Nat, k = kn := ⟨k.toNat, by omega⟩
  have hkl : kn < f.ct.length := by omega
  have hkl' : (kn : Int) < (f.ct.length : Int) := by omega
  obtain ⟨c, hcg⟩ := get_of_lt f.ct kn hkl
  have HCM : Hid (c ∈ f.ct) := mem_of_get hcg
  have HCA : Hid (ctAt f (kn : Int) = c) := by unfold Hid ctAt; rw [Int.toNat_natCast, List.getD_eq_getElem?_getD, hcg]; rfl
  obtain ⟨cb, co, A1, c1, A2, c2, hA3, cc0, cc1, hCS, hCR, hck1, hck2⟩ := (hr.ct.ext hx1).at_ hcg
  have HA3 := hid hA3
  have HDK := hid hdk
  rw [hA3] at kc4
  rw [HA3.out]
  have hcR : CtR w1 (.agg #[.slice A1 c.st.length c1, .slice A2 c.rp.length c2]) c := ⟨A1, c1, A2, c2, rfl, hCS, hCR, hck1, hck2⟩
  clear hk0 hk1 hce hcg hA3 hkl
  have HCE : Hid (cartE f (kn : Int) = 0) := HT
  have HFV : Hid (fitsM (farM f) f c l = VV) := by unfold Hid; rw [← HVV.out]; unfold fitsV; rw [HCE.out, HCA.out]; rfl
  have HE2 : Hid (EE = 0) := by unfold Hid; rw [← HEE.out]; exact HCE.out
  have hmi := HOK.out.mi
  have hpl := HOK.out.pl
  obtain ⟨W3, hW3⟩ : ∃ W3, (w1.alloc (.cells #[.pointer (some ⟨D, 0, none⟩)] 101)).alloc (.cells #[.slice A1 c.st.length c1, .slice A2 c.rp.length c2] 63) = W3 := ⟨_, rfl⟩
  have hx13 : Ext w1 W3 := by rw [← hW3]; exact (Ext.alloc (Ext.refl _) _).alloc _
  have hx3 := hx1.trans hx13
  have FX : Hid (∀ w', Ext W3 w' → w'.cell? ⟨w.heap.size + 1, 0, none⟩ = some (.slice AW l.length kW) ∧ w'.cell? ⟨w.heap.size, 0, none⟩ = some (.int .i64 f.pl) ∧ w'.cell? ⟨w.heap.size, 1, none⟩ = some (.int .i64 f.mi) ∧ w'.cell? ⟨w.heap.size, 2, none⟩ = some (.slice s.a1 f.tr.length s.c1) ∧ w'.cell? ⟨w.heap.size, 3, none⟩ = some (.slice s.a2 f.bl.length s.c2) ∧ w'.cell? ⟨w.heap.size, 4, none⟩ = some (.slice (some ⟨cb, co, none⟩) f.ct.length s.c3) ∧ w'.cell? ⟨w1.heap.size + 1, 0, none⟩ = some (.slice A1 c.st.length c1)) := fun w' h => ⟨h.cell (hx13.cell kw), h.cell (hx13.cell kc0), h.cell (hx13.cell kc1), h.cell (hx13.cell kc2), h.cell (hx13.cell kc3), h.cell (hx13.cell kc4), h.cell (by rw [← hW3]; simp [go_sem])⟩
  have FX2 : Hid (∀ w', Ext W3 w' → w'.cell? ⟨w1.heap.size, 0, none⟩ = some (.pointer (some ⟨D, 0, none⟩)) ∧ w'.cell? ⟨w1.heap.size + 1, 1, none⟩ = some (.slice A2 c.rp.length c2)) := fun w' h => ⟨h.cell (by rw [← hW3]; simp [go_sem]), h.cell (by rw [← hW3]; simp [go_sem])⟩
  have HCR := hid (hcR.ext hx13)
  have l4 := fun o => (Ext.alloc (Ext.refl w1) o).cell kc4
  have l5 := fun o => (Ext.alloc (Ext.refl w1) o).cell cc0
  have l6 := fun o => (Ext.alloc (Ext.refl w1) o).cell cc1
  go_upto_region 5 with fail
  try rw [hW3]
  clear hW3 l4 l5 l6 kw kc0 kc1 kc2 kc3 kc4 cc0 cc1 hcR
  obtain ⟨d0, d1, d2, d3, d4, d5, d6⟩ := FX.out W3 (Ext.refl _)
  clear d0 d1 d2 d3 d4 d5 d6
  by_cases hln : l.length = f.mi.toNat + 1
  case neg =>
    have HV : Hid (VV = false) := by unfold Hid; rw [← HFV.out]; unfold fitsM; rw [decide_eq_false hln]; rfl
    have hlq : ¬ (l.length : Int) = f.mi + 1 := by omega
    have HLB : Hid (¬ (l.length : Int) = f.mi + 1) := hlq
    have hwr : IntKind.i64.wrap (f.mi + 1) = f.mi + 1 := IntWalk.i64_in _ ⟨by omega, by omega⟩
    refine wp_region_shut Ext (fun w' => Ext W3 w') (fun
      | _ => none) (by kernel_rfl) (by kernel_rfl) (fun _ _ h k => h.trans k) ?hTp (Ext.drew (Ext.refl W3)) ?_
    case hTp =>
      intro i R hR
      cases hR
    refine wM_val ?up0 rfl rfl Ext.refl (fun w' hD => ?hp0) (fun php0 => ?np0)
    case hp0 =>
      obtain ⟨d0, d1, d2, d3, d4, d5, d6⟩ := FX.out w' hD.1
      go_simp; rfl
    simp only [Act.put, List.setIfInBounds_toArray, List.set_cons_succ, List.set_cons_zero, Nat.reduceAdd]
    refine wM_val ?up1 rfl rfl Ext.refl (fun w' hD => ?hp1) (fun php1 => ?np1)
    case hp1 =>
      obtain ⟨d0, d1, d2, d3, d4, d5, d6⟩ := FX.out w' hD.1
      go_simp; rfl
    simp only [Act.put, List.setIfInBounds_toArray, List.set_cons_succ, List.set_cons_zero, Nat.reduceAdd]
    refine wM_val ?up2 rfl rfl Ext.refl (fun w' hD => ?hp2) (fun php2 => ?np2)
    case hp2 =>
      obtain ⟨d0, d1, d2, d3, d4, d5, d6⟩ := FX.out w' hD.1
      go_simp; rfl
    simp only [Act.put, List.setIfInBounds_toArray, List.set_cons_succ, List.set_cons_zero, Nat.reduceAdd]
    refine wM_val ?up3 rfl rfl Ext.refl (fun w' hD => ?hp3) (fun php3 => ?np3)
    case hp3 =>
      obtain ⟨d0, d1, d2, d3, d4, d5, d6⟩ := FX.out w' hD.1
      go_simp; rfl
    simp only [Act.put, List.setIfInBounds_toArray, List.set_cons_succ, List.set_cons_zero, Nat.reduceAdd]
    refine wM_val ?up4 rfl rfl Ext.refl (fun w' hD => ?hp4) (fun php4 => ?np4)
    case hp4 =>
      obtain ⟨d0, d1, d2, d3, d4, d5, d6⟩ := FX.out w' hD.1
      go_simp; rfl
    simp only [Act.put, List.setIfInBounds_toArray, List.set_cons_succ, List.set_cons_zero, Nat.reduceAdd]
    refine wM_val ?up5 rfl rfl Ext.refl (fun w' hD => ?hp5) (fun php5 => ?np5)
    case hp5 =>
      obtain ⟨d0, d1, d2, d3, d4, d5, d6⟩ := FX.out w' hD.1
      go_simp; rfl
    simp only [Act.put, List.setIfInBounds_toArray, List.set_cons_succ, List.set_cons_zero, Nat.reduceAdd]
    refine wM_val (.bool true) rfl rfl Ext.refl (fun w' hD => ?hp6) (fun php6 => ?np6)
    case hp6 => go_simp; first | done | rfl | exact HLB.out | (have := HLB.out; simpa using this)
    simp only [Act.put, List.setIfInBounds_toArray, List.set_cons_succ, List.set_cons_zero, Nat.reduceAdd]
    refine wM_val ?up7 rfl rfl Ext.refl (fun w' hD => ?hp7) (fun php7 => ?np7)
    case hp7 =>
      obtain ⟨d0, d1, d2, d3, d4, d5, d6⟩ := FX.out w' hD.1
      go_simp; rfl
    simp only [Act.put, List.setIfInBounds_toArray, List.set_cons_succ, List.set_cons_zero, Nat.reduceAdd]
    refine wM_skip rfl ?_
    simp only [Act.put, List.setIfInBounds_toArray, List.set_cons_succ, List.set_cons_zero, Nat.reduceAdd]
    refine wM_skip rfl ?_
    simp only [Act.put, List.setIfInBounds_toArray, List.set_cons_succ, List.set_cons_zero, Nat.reduceAdd]
    refine wM_skip rfl ?_
    simp only [Act.put, List.setIfInBounds_toArray, List.set_cons_succ, List.set_cons_zero, Nat.reduceAdd]
    refine wM_skip rfl ?_
    simp only [Act.put, List.setIfInBounds_toArray, List.set_cons_succ, List.set_cons_zero, Nat.reduceAdd]
    refine wM_skip rfl ?_
    simp only [Act.put, List.setIfInBounds_toArray, List.set_cons_succ, List.set_cons_zero, Nat.reduceAdd]
    refine wM_val ?up13 rfl rfl Ext.refl (fun w' hD => ?hp13) (fun php13 => ?np13)
    case hp13 =>
      obtain ⟨d0, d1, d2, d3, d4, d5, d6⟩ := FX.out w' hD.1
      go_simp; rfl
    simp only [Act.put, List.setIfInBounds_toArray, List.set_cons_succ, List.set_cons_zero, Nat.reduceAdd]
    refine wM_val ?up14 rfl rfl Ext.refl (fun w' hD => ?hp14) (fun php14 => ?np14)
    case hp14 =>
      obtain ⟨d0, d1, d2, d3, d4, d5, d6⟩ := FX.out w' hD.1
      go_simp; rfl
    simp only [Act.put, List.setIfInBounds_toArray, List.set_cons_succ, List.set_cons_zero, Nat.reduceAdd]
    refine wM_skip rfl ?_
    simp only [Act.put, List.setIfInBounds_toArray, List.set_cons_succ, List.set_cons_zero, Nat.reduceAdd]
    refine wM_skip rfl ?_
    simp only [Act.put, List.setIfInBounds_toArray, List.set_cons_succ, List.set_cons_zero, Nat.reduceAdd]
    refine wM_skip rfl ?_
    simp only [Act.put, List.setIfInBounds_toArray, List.set_cons_succ, List.set_cons_zero, Nat.reduceAdd]
    refine wM_skip rfl ?_
    simp only [Act.put, List.setIfInBounds_toArray, List.set_cons_succ, List.set_cons_zero, Nat.reduceAdd]
    refine wM_skip rfl ?_
    simp only [Act.put, List.setIfInBounds_toArray, List.set_cons_succ, List.set_cons_zero, Nat.reduceAdd]
    refine wM_skip rfl ?_
    simp only [Act.put, List.setIfInBounds_toArray, List.set_cons_succ, List.set_cons_zero, Nat.reduceAdd]
    refine wM_skip rfl ?_
    simp only [Act.put, List.setIfInBounds_toArray, List.set_cons_succ, List.set_cons_zero, Nat.reduceAdd]
    refine wM_val ?up22 rfl rfl Ext.refl (fun w' hD => ?hp22) (fun php22 => ?np22)
    case hp22 =>
      obtain ⟨d0, d1, d2, d3, d4, d5, d6⟩ := FX.out w' hD.1
      go_simp; rfl
    simp only [Act.put, List.setIfInBounds_toArray, List.set_cons_succ, List.set_cons_zero, Nat.reduceAdd]
    refine wM_nil ?_
    intro w9 hw9 hF9
    clear hF9
    go_wp2
    go_ret2
    exact ⟨by rw [HV.out, HE2.out]; rfl, hx3.trans hw9⟩
  have HLB : Hid ((l.length : Int) = f.mi + 1) := by unfold Hid; omega
  have hwr : IntKind.i64.wrap (f.mi + 1) = f.mi + 1 := IntWalk.i64_in _ ⟨by omega, by omega⟩
  have HLN := hid hln
  have hle0 : l.length = f.mi.toNat + 1 := hln
  have hle : l.length ≤ 9 := by omega
  have hl1' : 1 ≤ l.length := by omega
  have hl0n : 0 < l.length := by omega
  clear hln hle0
  obtain ⟨wb, wo, rfl, hwc⟩ : ∃ wb wo, AW = some ⟨wb, wo, none⟩ ∧ ∀ j x, l[j]? = some x → w.cell? ⟨wb, wo + j, none⟩ = some (.int .i64 x) := by
    rcases HWI.out with h | ⟨b, off, h, hc⟩
    · rw [List.map_eq_nil_iff] at h
      rw [h] at hl0n; simp at hl0n
    · exact ⟨b, off, h, fun j x hj => hc j _ (by rw [List.getElem?_map, hj]; rfl)⟩
  have HWC : Hid (∀ w', Ext W3 w' → ∀ j x, l[j]? = some x → w'.cell? ⟨wb, wo + j, none⟩ = some (.int .i64 x)) := fun w' h j x hj => (hx3.trans h).cell (hwc j x hj)
  obtain ⟨B2, hB2⟩ : ∃ B2, l.all (plOK f) = B2 := ⟨_, rfl⟩
  have KA : Hid (∀ w', Ext W3 w' → Calls Tryz.prog 73 #[.slice (some ⟨wb, wo, none⟩) l.length kW, .func (.func 44) #[.agg #[.int .i64 f.pl, .int .i64 f.mi, .slice s.a1 f.tr.length s.c1, .slice s.a2 f.bl.length s.c2, .slice (some ⟨cb, co, none⟩) f.ct.length s.c3]] #[]] w' fun e w2 => e = .returned (.bool B2) ∧ Ext w' w2) := fun w' h => by
    have hfg : FgR w' (.agg #[.int .i64 f.pl, .int .i64 f.mi, .slice s.a1 f.tr.length s.c1, .slice s.a2 f.bl.length s.c2, .slice (some ⟨cb, co, none⟩) f.ct.length s.c3]) f := by have := FRows.fg (hr.ext (hx3.trans h)); unfold Ads.val fval at this; rw [HA3.out] at this; exact this
    have K := every_int (some ⟨wb, wo, none⟩) kW l _ anyx (plOK f) w' (HWI.out.ext (hx3.trans h)) (by omega) (fun _ _ => trivial) (place_fn _ f w' hfg hpl.1 hpl.2)
    rw [hB2] at K
    exact K
  have HB2 := hid hB2
  clear hwc hB2
  cases B2
  case false =>
    have HV : Hid (VV = false) := by unfold Hid; rw [← HFV.out]; unfold fitsM; rw [HB2.out]; simp
    refine wp_region_shut Ext (fun w' => Ext W3 w') (fun
      | 11 => some (fun v _ => v = .bool false)
      | _ => none) (by kernel_rfl) (by kernel_rfl) (fun _ _ h k => h.trans k) ?hTq (Ext.drew (Ext.refl W3)) ?_
    case hTq =>
      intro i R hR
      match i, hR with
      | 11, hR => cases hR; exact fun _ _ _ h _ => h
    refine wM_val ?uq0 rfl rfl Ext.refl (fun w' hD => ?hq0) (fun phq0 => ?nq0)
    case hq0 =>
      obtain ⟨d0, d1, d2, d3, d4, d5, d6⟩ := FX.out w' hD.1
      go_simp; rfl
    simp only [Act.put, List.setIfInBounds_toArray, List.set_cons_succ, List.set_cons_zero, Nat.reduceAdd]
    refine wM_val ?uq1 rfl rfl Ext.refl (fun w' hD => ?hq1) (fun phq1 => ?nq1)
    case hq1 =>
      obtain ⟨d0, d1, d2, d3, d4, d5, d6⟩ := FX.out w' hD.1
      go_simp; rfl
    simp only [Act.put, List.setIfInBounds_toArray, List.set_cons_succ, List.set_cons_zero, Nat.reduceAdd]
    refine wM_val ?uq2 rfl rfl Ext.refl (fun w' hD => ?hq2) (fun phq2 => ?nq2)
    case hq2 =>
      obtain ⟨d0, d1, d2, d3, d4, d5, d6⟩ := FX.out w' hD.1
      go_simp; rfl
    simp only [Act.put, List.setIfInBounds_toArray, List.set_cons_succ, List.set_cons_zero, Nat.reduceAdd]
    refine wM_val ?uq3 rfl rfl Ext.refl (fun w' hD => ?hq3) (fun phq3 => ?nq3)
    case hq3 =>
      obtain ⟨d0, d1, d2, d3, d4, d5, d6⟩ := FX.out w' hD.1
      go_simp; rfl
    simp only [Act.put, List.setIfInBounds_toArray, List.set_cons_succ, List.set_cons_zero, Nat.reduceAdd]
    refine wM_val ?uq4 rfl rfl Ext.refl (fun w' hD => ?hq4) (fun phq4 => ?nq4)
    case hq4 =>
      obtain ⟨d0, d1, d2, d3, d4, d5, d6⟩ := FX.out w' hD.1
      go_simp; rfl
    simp only [Act.put, List.setIfInBounds_toArray, List.set_cons_succ, List.set_cons_zero, Nat.reduceAdd]
    refine wM_val ?uq5 rfl rfl Ext.refl (fun w' hD => ?hq5) (fun phq5 => ?nq5)
    case hq5 =>
      obtain ⟨d0, d1, d2, d3, d4, d5, d6⟩ := FX.out w' hD.1
      go_simp; rfl
    simp only [Act.put, List.setIfInBounds_toArray, List.set_cons_succ, List.set_cons_zero, Nat.reduceAdd]
    refine wM_val (.bool false) rfl rfl Ext.refl (fun w' hD => ?hq6) (fun phq6 => ?nq6)
    case hq6 => go_simp; first | done | rfl | exact HLB.out | (have := HLB.out; simpa using this)
    simp only [Act.put, List.setIfInBounds_toArray, List.set_cons_succ, List.set_cons_zero, Nat.reduceAdd]
    refine wM_val ?uq7 rfl rfl Ext.refl (fun w' hD => ?hq7) (fun phq7 => ?nq7)
    case hq7 =>
      obtain ⟨d0, d1, d2, d3, d4, d5, d6⟩ := FX.out w' hD.1
      go_simp; rfl
    simp only [Act.put, List.setIfInBounds_toArray, List.set_cons_succ, List.set_cons_zero, Nat.reduceAdd]
    refine wM_val ?uq8 rfl rfl Ext.refl (fun w' hD => ?hq8) (fun phq8 => ?nq8)
    case hq8 =>
      obtain ⟨d0, d1, d2, d3, d4, d5, d6⟩ := FX.out w' hD.1
      go_simp; rfl
    simp only [Act.put, List.setIfInBounds_toArray, List.set_cons_succ, List.set_cons_zero, Nat.reduceAdd]
    refine wM_val ?uq9 rfl rfl Ext.refl (fun w' hD => ?hq9) (fun phq9 => ?nq9)
    case hq9 =>
      obtain ⟨d0, d1, d2, d3, d4, d5, d6⟩ := FX.out w' hD.1
      go_simp; rfl
    simp only [Act.put, List.setIfInBounds_toArray, List.set_cons_succ, List.set_cons_zero, Nat.reduceAdd]
    refine wM_val ?uq10 rfl rfl Ext.refl (fun w' hD => ?hq10) (fun phq10 => ?nq10)
    case hq10 =>
      obtain ⟨d0, d1, d2, d3, d4, d5, d6⟩ := FX.out w' hD.1
      go_simp; rfl
    simp only [Act.put, List.setIfInBounds_toArray, List.set_cons_succ, List.set_cons_zero, Nat.reduceAdd]
    refine wM_op _ rfl rfl (opens_call ?fq11 ?gq11 (fun w' hD => ?hq11) (fun w' hD => ?cq11)) (fun v11 hv11 => ?nq11)
    case hq11 => go_simp; constructor <;> rfl
    case cq11 =>
      refine (KA.out w' hD.1).mono ?_
      rintro e w2 ⟨rfl, hb⟩
      exact ⟨_, rfl, hb, rfl⟩
    obtain ⟨_, -, -, rfl⟩ := hv11
    simp only [Act.put, List.setIfInBounds_toArray, List.set_cons_succ, List.set_cons_zero, Nat.reduceAdd]
    refine wM_val ?uq12 rfl rfl Ext.refl (fun w' hD => ?hq12) (fun phq12 => ?nq12)
    case hq12 =>
      obtain ⟨d0, d1, d2, d3, d4, d5, d6⟩ := FX.out w' hD.1
      go_simp; rfl
    simp only [Act.put, List.setIfInBounds_toArray, List.set_cons_succ, List.set_cons_zero, Nat.reduceAdd]
    refine wM_val ?uq13 rfl rfl Ext.refl (fun w' hD => ?hq13) (fun phq13 => ?nq13)
    case hq13 =>
      obtain ⟨d0, d1, d2, d3, d4, d5, d6⟩ := FX.out w' hD.1
      go_simp; rfl
    simp only [Act.put, List.setIfInBounds_toArray, List.set_cons_succ, List.set_cons_zero, Nat.reduceAdd]
    refine wM_val ?uq14 rfl rfl Ext.refl (fun w' hD => ?hq14) (fun phq14 => ?nq14)
    case hq14 =>
      obtain ⟨d0, d1, d2, d3, d4, d5, d6⟩ := FX.out w' hD.1
      go_simp; rfl
    simp only [Act.put, List.setIfInBounds_toArray, List.set_cons_succ, List.set_cons_zero, Nat.reduceAdd]
    refine wM_skip rfl ?_
    simp only [Act.put, List.setIfInBounds_toArray, List.set_cons_succ, List.set_cons_zero, Nat.reduceAdd]
    refine wM_skip rfl ?_
    simp only [Act.put, List.setIfInBounds_toArray, List.set_cons_succ, List.set_cons_zero, Nat.reduceAdd]
    refine wM_skip rfl ?_
    simp only [Act.put, List.setIfInBounds_toArray, List.set_cons_succ, List.set_cons_zero, Nat.reduceAdd]
    refine wM_skip rfl ?_
    simp only [Act.put, List.setIfInBounds_toArray, List.set_cons_succ, List.set_cons_zero, Nat.reduceAdd]
    refine wM_skip rfl ?_
    simp only [Act.put, List.setIfInBounds_toArray, List.set_cons_succ, List.set_cons_zero, Nat.reduceAdd]
    refine wM_skip rfl ?_
    simp only [Act.put, List.setIfInBounds_toArray, List.set_cons_succ, List.set_cons_zero, Nat.reduceAdd]
    refine wM_skip rfl ?_
    simp only [Act.put, List.setIfInBounds_toArray, List.set_cons_succ, List.set_cons_zero, Nat.reduceAdd]
    refine wM_val ?uq22 rfl rfl Ext.refl (fun w' hD => ?hq22) (fun phq22 => ?nq22)
    case hq22 =>
      obtain ⟨d0, d1, d2, d3, d4, d5, d6⟩ := FX.out w' hD.1
      go_simp; rfl
    simp only [Act.put, List.setIfInBounds_toArray, List.set_cons_succ, List.set_cons_zero, Nat.reduceAdd]
    refine wM_nil ?_
    intro w9 hw9 hF9
    clear hF9
    go_wp2
    go_ret2
    exact ⟨by rw [HV.out, HE2.out]; rfl, hx3.trans hw9⟩
  obtain ⟨hg0, hw08, -⟩ := wl_lt hpl.2 HB2.out (show 0 < l.length by omega)
  have hl0 : (0 : Int) < (l.length : Int) := by omega
  have hz0 := HWC.out W3 (Ext.refl _) 0 _ hg0
  rw [Nat.add_zero] at hz0
  obtain ⟨B3, hB3⟩ : ∃ B3, memI (l.getD 0 0) c.st = B3 := ⟨_, rfl⟩
  have hgd : l.getD 0 0 = (wlAt l 0 : Int) := by rw [List.getD_eq_getElem?_getD, hg0]; rfl
  have KB : Hid (∀ w', Ext W3 w' → Calls Tryz.prog 11 #[.slice A1 c.st.length c1, .int .i64 (wlAt l 0 : Int)] w' fun e w2 => e = .returned (.bool B3) ∧ Ext w' w2) := fun w' h => by
    obtain ⟨A1', c1', A2', c2', e1, hst, -⟩ := HCR.out
    simp at e1
    obtain ⟨⟨rfl, rfl⟩, -⟩ := e1
    have K := containsI_any (wlAt l 0 : Int) A1 c1 c.st w' (hst.ext h) (by have := (HS.out.each c HCM.out).1; omega)
    rw [← hgd, hB3] at K
    rw [← hgd]
    exact K.mono fun e w2 h2 => ⟨h2.1, by rw [h2.2]; exact Ext.refl _⟩
  have FX3 := FX
  have HB3 := hid hB3
  have FZ : Hid (∀ w', Ext W3 w' → w'.cell? ⟨wb, wo, none⟩ = some (.int .i64 (wlAt l 0 : Int))) := fun w' h => h.cell hz0
  clear hg0 hz0 hB3 hgd
  refine wp_region_shut Ext (fun w' => Ext W3 w') (fun
    | 11 => some (fun v _ => v = .bool true)
    | 20 => some (fun v _ => v = .bool B3)
    | _ => none) (by kernel_rfl) (by kernel_rfl) (fun _ _ h k => h.trans k) ?hTr (Ext.drew (Ext.refl W3)) ?_
  case hTr =>
    intro i R hR
    match i, hR with
    | 11, hR => cases hR; exact fun _ _ _ h _ => h
    | 20, hR => cases hR; exact fun _ _ _ h _ => h
  refine wM_val ?ur0 rfl rfl Ext.refl (fun w' hD => ?hr0) (fun phr0 => ?nr0)
  case hr0 =>
    obtain ⟨d0, d1, d2, d3, d4, d5, d6⟩ := FX.out w' hD.1
    have dz := FZ.out w' hD.1
    go_simp; rfl
  simp only [Act.put, List.setIfInBounds_toArray, List.set_cons_succ, List.set_cons_zero, Nat.reduceAdd]
  refine wM_val ?ur1 rfl rfl Ext.refl (fun w' hD => ?hr1) (fun phr1 => ?nr1)
  case hr1 =>
    obtain ⟨d0, d1, d2, d3, d4, d5, d6⟩ := FX.out w' hD.1
    have dz := FZ.out w' hD.1
    go_simp; rfl
  simp only [Act.put, List.setIfInBounds_toArray, List.set_cons_succ, List.set_cons_zero, Nat.reduceAdd]
  refine wM_val ?ur2 rfl rfl Ext.refl (fun w' hD => ?hr2) (fun phr2 => ?nr2)
  case hr2 =>
    obtain ⟨d0, d1, d2, d3, d4, d5, d6⟩ := FX.out w' hD.1
    have dz := FZ.out w' hD.1
    go_simp; rfl
  simp only [Act.put, List.setIfInBounds_toArray, List.set_cons_succ, List.set_cons_zero, Nat.reduceAdd]
  refine wM_val ?ur3 rfl rfl Ext.refl (fun w' hD => ?hr3) (fun phr3 => ?nr3)
  case hr3 =>
    obtain ⟨d0, d1, d2, d3, d4, d5, d6⟩ := FX.out w' hD.1
    have dz := FZ.out w' hD.1
    go_simp; rfl
  simp only [Act.put, List.setIfInBounds_toArray, List.set_cons_succ, List.set_cons_zero, Nat.reduceAdd]
  refine wM_val ?ur4 rfl rfl Ext.refl (fun w' hD => ?hr4) (fun phr4 => ?nr4)
  case hr4 =>
    obtain ⟨d0, d1, d2, d3, d4, d5, d6⟩ := FX.out w' hD.1
    have dz := FZ.out w' hD.1
    go_simp; rfl
  simp only [Act.put, List.setIfInBounds_toArray, List.set_cons_succ, List.set_cons_zero, Nat.reduceAdd]
  refine wM_val ?ur5 rfl rfl Ext.refl (fun w' hD => ?hr5) (fun phr5 => ?nr5)
  case hr5 =>
    obtain ⟨d0, d1, d2, d3, d4, d5, d6⟩ := FX.out w' hD.1
    have dz := FZ.out w' hD.1
    go_simp; rfl
  simp only [Act.put, List.setIfInBounds_toArray, List.set_cons_succ, List.set_cons_zero, Nat.reduceAdd]
  refine wM_val (.bool false) rfl rfl Ext.refl (fun w' hD => ?hr6) (fun phr6 => ?nr6)
  case hr6 => go_simp; first | done | rfl | exact HLB.out | (have := HLB.out; simpa using this)
  simp only [Act.put, List.setIfInBounds_toArray, List.set_cons_succ, List.set_cons_zero, Nat.reduceAdd]
  refine wM_val ?ur7 rfl rfl Ext.refl (fun w' hD => ?hr7) (fun phr7 => ?nr7)
  case hr7 =>
    obtain ⟨d0, d1, d2, d3, d4, d5, d6⟩ := FX.out w' hD.1
    have dz := FZ.out w' hD.1
    go_simp; rfl
  simp only [Act.put, List.setIfInBounds_toArray, List.set_cons_succ, List.set_cons_zero, Nat.reduceAdd]
  refine wM_val ?ur8 rfl rfl Ext.refl (fun w' hD => ?hr8) (fun phr8 => ?nr8)
  case hr8 =>
    obtain ⟨d0, d1, d2, d3, d4, d5, d6⟩ := FX.out w' hD.1
    have dz := FZ.out w' hD.1
    go_simp; rfl
  simp only [Act.put, List.setIfInBounds_toArray, List.set_cons_succ, List.set_cons_zero, Nat.reduceAdd]
  refine wM_val ?ur9 rfl rfl Ext.refl (fun w' hD => ?hr9) (fun phr9 => ?nr9)
  case hr9 =>
    obtain ⟨d0, d1, d2, d3, d4, d5, d6⟩ := FX.out w' hD.1
    have dz := FZ.out w' hD.1
    go_simp; rfl
  simp only [Act.put, List.setIfInBounds_toArray, List.set_cons_succ, List.set_cons_zero, Nat.reduceAdd]
  refine wM_val ?ur10 rfl rfl Ext.refl (fun w' hD => ?hr10) (fun phr10 => ?nr10)
  case hr10 =>
    obtain ⟨d0, d1, d2, d3, d4, d5, d6⟩ := FX.out w' hD.1
    have dz := FZ.out w' hD.1
    go_simp; rfl
  simp only [Act.put, List.setIfInBounds_toArray, List.set_cons_succ, List.set_cons_zero, Nat.reduceAdd]
  refine wM_op _ rfl rfl (opens_call ?fr11 ?gr11 (fun w' hD => ?hr11) (fun w' hD => ?cr11)) (fun v11 hv11 => ?nr11)
  case hr11 => go_simp; constructor <;> rfl
  case cr11 =>
    refine (KA.out w' hD.1).mono ?_
    rintro e w2 ⟨rfl, hb⟩
    exact ⟨_, rfl, hb, rfl⟩
  obtain ⟨_, -, -, rfl⟩ := hv11
  simp only [Act.put, List.setIfInBounds_toArray, List.set_cons_succ, List.set_cons_zero, Nat.reduceAdd]
  refine wM_val ?ur12 rfl rfl Ext.refl (fun w' hD => ?hr12) (fun phr12 => ?nr12)
  case hr12 =>
    obtain ⟨d0, d1, d2, d3, d4, d5, d6⟩ := FX.out w' hD.1
    have dz := FZ.out w' hD.1
    go_simp; rfl
  simp only [Act.put, List.setIfInBounds_toArray, List.set_cons_succ, List.set_cons_zero, Nat.reduceAdd]
  refine wM_val ?ur13 rfl rfl Ext.refl (fun w' hD => ?hr13) (fun phr13 => ?nr13)
  case hr13 =>
    obtain ⟨d0, d1, d2, d3, d4, d5, d6⟩ := FX.out w' hD.1
    have dz := FZ.out w' hD.1
    go_simp; rfl
  simp only [Act.put, List.setIfInBounds_toArray, List.set_cons_succ, List.set_cons_zero, Nat.reduceAdd]
  refine wM_val ?ur14 rfl rfl Ext.refl (fun w' hD => ?hr14) (fun phr14 => ?nr14)
  case hr14 =>
    obtain ⟨d0, d1, d2, d3, d4, d5, d6⟩ := FX.out w' hD.1
    have dz := FZ.out w' hD.1
    go_simp; rfl
  simp only [Act.put, List.setIfInBounds_toArray, List.set_cons_succ, List.set_cons_zero, Nat.reduceAdd]
  refine wM_val ?ur15 rfl rfl Ext.refl (fun w' hD => ?hr15) (fun phr15 => ?nr15)
  case hr15 =>
    obtain ⟨d0, d1, d2, d3, d4, d5, d6⟩ := FX.out w' hD.1
    have dz := FZ.out w' hD.1
    go_simp; rfl
  simp only [Act.put, List.setIfInBounds_toArray, List.set_cons_succ, List.set_cons_zero, Nat.reduceAdd]
  refine wM_val ?ur16 rfl rfl Ext.refl (fun w' hD => ?hr16) (fun phr16 => ?nr16)
  case hr16 =>
    obtain ⟨d0, d1, d2, d3, d4, d5, d6⟩ := FX.out w' hD.1
    have dz := FZ.out w' hD.1
    go_simp; rfl
  simp only [Act.put, List.setIfInBounds_toArray, List.set_cons_succ, List.set_cons_zero, Nat.reduceAdd]
  refine wM_val ?ur17 rfl rfl Ext.refl (fun w' hD => ?hr17) (fun phr17 => ?nr17)
  case hr17 =>
    obtain ⟨d0, d1, d2, d3, d4, d5, d6⟩ := FX.out w' hD.1
    have dz := FZ.out w' hD.1
    go_simp; rfl
  simp only [Act.put, List.setIfInBounds_toArray, List.set_cons_succ, List.set_cons_zero, Nat.reduceAdd]
  refine wM_val ?ur18 rfl rfl Ext.refl (fun w' hD => ?hr18) (fun phr18 => ?nr18)
  case hr18 =>
    obtain ⟨d0, d1, d2, d3, d4, d5, d6⟩ := FX.out w' hD.1
    have dz := FZ.out w' hD.1
    go_simp; rfl
  simp only [Act.put, List.setIfInBounds_toArray, List.set_cons_succ, List.set_cons_zero, Nat.reduceAdd]
  refine wM_val ?ur19 rfl rfl Ext.refl (fun w' hD => ?hr19) (fun phr19 => ?nr19)
  case hr19 =>
    obtain ⟨d0, d1, d2, d3, d4, d5, d6⟩ := FX.out w' hD.1
    have dz := FZ.out w' hD.1
    go_simp; rfl
  simp only [Act.put, List.setIfInBounds_toArray, List.set_cons_succ, List.set_cons_zero, Nat.reduceAdd]
  refine wM_op _ rfl rfl (opens_call ?fr20 ?gr20 (fun w' hD => ?hr20) (fun w' hD => ?cr20)) (fun v20 hv20 => ?nr20)
  case hr20 => go_simp; constructor <;> rfl
  case cr20 =>
    refine (KB.out w' hD.1).mono ?_
    rintro e w2 ⟨rfl, hb⟩
    exact ⟨_, rfl, hb, rfl⟩
  obtain ⟨_, -, -, rfl⟩ := hv20
  simp only [Act.put, List.setIfInBounds_toArray, List.set_cons_succ, List.set_cons_zero, Nat.reduceAdd]
  refine wM_val ?ur21 rfl rfl Ext.refl (fun w' hD => ?hr21) (fun phr21 => ?nr21)
  case hr21 =>
    obtain ⟨d0, d1, d2, d3, d4, d5, d6⟩ := FX.out w' hD.1
    have dz := FZ.out w' hD.1
    go_simp; rfl
  simp only [Act.put, List.setIfInBounds_toArray, List.set_cons_succ, List.set_cons_zero, Nat.reduceAdd]
  refine wM_val ?ur22 rfl rfl Ext.refl (fun w' hD => ?hr22) (fun phr22 => ?nr22)
  case hr22 =>
    obtain ⟨d0, d1, d2, d3, d4, d5, d6⟩ := FX.out w' hD.1
    have dz := FZ.out w' hD.1
    go_simp; rfl
  simp only [Act.put, List.setIfInBounds_toArray, List.set_cons_succ, List.set_cons_zero, Nat.reduceAdd]
  refine wM_nil ?_
  intro w9 hw9 hF9
  clear hF9
  cases B3
  case false =>
    have HV : Hid (VV = false) := by unfold Hid; rw [← HFV.out]; unfold fitsM; rw [HB2.out, HB3.out]; simp
    go_wp2
    go_ret2
    exact ⟨by rw [HV.out, HE2.out]; rfl, hx3.trans hw9⟩
  obtain ⟨W9, hW9⟩ : ∃ W9, W9 = w9 := ⟨_, rfl⟩
  subst hW9
  try simp only [Bool.not_true]
  have hx9 := hx3.trans hw9
  obtain ⟨Mi, hMi⟩ : ∃ Mi : Nat, f.mi.toNat = Mi := ⟨_, rfl⟩
  have HMI := hid hMi
  have HLM : Hid (l.length = Mi + 1) := by have := HLN.out; unfold Hid; omega
  have hlM : Mi + 1 ≤ l.length := by have := HLM.out; omega
  have hMi8 : Mi ≤ 8 := by omega
  obtain ⟨d0, d1, d2, d3, d4, d5, d6⟩ := FX.out W9 hw9
  clear hMi
  by_cases hk1 : kW = 1
  · subst hk1
    have hM0 : Mi = 0 := by omega
    subst hM0
    go_wp2_with fail
    clear d0 d1 d2 d3 d4 d5 d6
    go_loopw [53] (fun i53 wr => ∃ (j : Nat), j = 0 ∧ i53 = .int .i64 (j : Int) ∧ Ext W9 wr) (fun i _ => 0)
    case atStart => exact ⟨0, rfl, rfl, Ext.refl _⟩
    case round =>
      obtain ⟨j, hj, rfl, hx⟩ := hrel
      have hjj : (j : Int) = 0 := by omega
      have h3 := hw9.trans hx
      have hst : stepsL (farM f) l 0 = true := rfl
      have hlt' : ¬ (j : Int) < (l.length : Int) - 1 := by omega
      have hlt2 : ¬ j < l.length - 1 := by omega
      have hlt3 : l.length - 1 ≤ j := by omega
      clear hj hjj
      obtain ⟨e0, e1⟩ := FX2.out wr h3
      obtain ⟨d0, d1, d2, d3, d4, d5, d6⟩ := FX.out wr h3
      have K := every_rep A2 c2 c.rp _ (fun r => r ∈ c.rp) (fun r => hearsL2 (farM f) f l r.bl == r.hd) wr ?hR9 (by have := (HS.out.each c HCM.out).2; omega) (fun _ h => h) (fits1_fn wr w1.heap.size (w.heap.size + 1) D wb wo _ s2 f (farM f) c l (HDK.out.ext (hx13.trans h3)) (hrk.ext (hx13.trans h3)) HOK.out HCM.out e0 d0 (HWC.out wr h3) HLN.out HB2.out)
      case hR9 =>
        obtain ⟨A1', c1', A2', c2', ev, -, hrp, -⟩ := HCR.out
        simp at ev
        obtain ⟨-, rfl, rfl⟩ := ev
        exact Rows.ext hrp h3
      have HALL : Hid ((c.rp.all fun r => hearsL2 (farM f) f l r.bl == r.hd) = VV) := by
        unfold Hid
        rw [← HFV.out]
        unfold fitsM heardAll
        rw [decide_eq_true HLN.out, HB2.out, HB3.out, HMI.out, hst]; rfl
      rw [HALL.out] at K
      have HK := hid K
      clear K hst
      go_wp2_with fail
      refine HK.out.mono ?_
      rintro e w12 ⟨rfl, hb12⟩
      go_wp2
      go_ret2
      exact ⟨by rw [HE2.out]; rfl, (hx3.trans h3).trans hb12⟩
  have hk2 : ¬ kW = 1 := hk1
  have hk3 : ¬ kW - 1 = 0 := by omega
  have hk4 : ¬ kW ≤ 1 := by omega
  go_wp2_with fail
  clear d0 d1 d2 d3 d4 d5 d6 hk1 hk2 hk3 hk4
  go_loopw [53, 6, 7] (fun i53 s6 s7 wr => ∃ (j : Nat), j ≤ Mi ∧ i53 = .int .i64 (j : Int) ∧ s6 = .bool false ∧ s7 = .int .i64 0 ∧ stepsL (farM f) l j = true ∧ Ext W9 wr) (fun i _ _ _ => Mi - (intOf i).toNat)
  case atStart => exact ⟨0, Nat.zero_le _, rfl, rfl, rfl, rfl, Ext.refl _⟩
  case round =>
    obtain ⟨j, hj, rfl, rfl, rfl, hst, hx⟩ := hrel
    have h3 := hw9.trans hx
    by_cases hlt : j < Mi
    · obtain ⟨ga, ha8, -⟩ := wl_lt hpl.2 HB2.out (show j < l.length by omega)
      obtain ⟨gb, hb8, -⟩ := wl_lt hpl.2 HB2.out (show j + 1 < l.length by omega)
      have ca := HWC.out wr h3 j _ ga
      have cb1 := HWC.out wr h3 (j + 1) _ gb
      have cb2 : wr.cell? ⟨wb, wo + 1 + j, none⟩ = some (.int .i64 (wlAt l (j + 1) : Int)) := by rw [show wo + 1 + j = wo + (j + 1) by omega]; exact cb1
      have cd := ((HDK.out.ext (hx13.trans h3)).at_ ha8 hb8)
      have hsn : stepsL (farM f) l (j + 1) = (stepsL (farM f) l j && decide (farM f (wlAt l j) (wlAt l (j + 1)) ≤ 1)) := by
        unfold stepsL; rw [List.range_succ, List.all_append]; simp
      rw [hst, Bool.true_and] at hsn
      obtain ⟨ia, hia⟩ : ∃ ia, wlAt l j = ia := ⟨_, rfl⟩
      obtain ⟨ib, hib⟩ : ∃ ib, wlAt l (j + 1) = ib := ⟨_, rfl⟩
      rw [hia] at ca cd ha8 hsn
      rw [hib] at cb1 cb2 cd hb8 hsn
      obtain ⟨G, hG⟩ : ∃ G, farM f ia ib = G := ⟨_, rfl⟩
      rw [hG] at cd hsn
      have HSN := hid hsn
      have HST := hid hst
      have hlt' : (j : Int) < (Mi : Int) := by omega
      have hlt1 : (j : Int) < (l.length : Int) := by omega
      have hlt2 : (j : Int) < (l.length : Int) - 1 := by omega
      have hlt3 : j < l.length - 1 := by omega
      have ha8' : (ia : Int) < 8 := by omega
      have hb8' : (ib : Int) < 8 := by omega
      obtain ⟨d0, d1, d2, d3, d4, d5, d6⟩ := FX.out wr h3
      obtain ⟨e0, e1⟩ := FX2.out wr h3
      clear hia hib hG hsn hst ga gb
      by_cases hG1 : G ≤ 1
      · have HSJ : Hid (stepsL (farM f) l (j + 1) = true) := by unfold Hid; rw [HSN.out]; simpa using hG1
        have hG2 : ¬ 1 < G := by omega
        go_wp2
        go_quiet (fail)
        go_wp2
        go_roundw
        case rel => exact ⟨j + 1, by omega, by go_num, rfl, rfl, HSJ.out, Ext.drewN hx _⟩
        case measure => simp [intOf]; omega
      · have HV : Hid (VV = false) := by
          unfold Hid
          rw [← HFV.out]
          unfold fitsM
          have : stepsL (farM f) l f.mi.toNat = false := by
            rw [HMI.out]
            unfold stepsL
            rw [List.all_eq_false]
            refine ⟨j, by simpa using hlt, ?_⟩
            have h1 := HSN.out
            unfold stepsL at h1
            rw [List.range_succ, List.all_append] at h1
            have h2 := HST.out
            unfold stepsL at h2
            rw [h2] at h1
            simp only [Bool.true_and, List.all_cons, List.all_nil, Bool.and_true] at h1
            rw [h1]; simpa using hG1
          rw [this]; simp
        have hG2 : 1 < G := by omega
        go_wp2
        go_quiet (fail)
        go_wp2
        go_ret2
        exact ⟨by rw [HV.out, HE2.out]; rfl, Ext.drewN (hx3.trans h3) _⟩
    · have hjM : j = Mi := by omega
      subst hjM
      have hlt' : ¬ (j : Int) < (l.length : Int) - 1 := by have := HLM.out; omega
      have hlt2 : ¬ j < l.length - 1 := by have := HLM.out; omega
      have hlt3 : l.length - 1 ≤ j := by have := HLM.out; omega
      obtain ⟨e0, e1⟩ := FX2.out wr h3
      obtain ⟨d0, d1, d2, d3, d4, d5, d6⟩ := FX.out wr h3
      have K := every_rep A2 c2 c.rp _ (fun r => r ∈ c.rp) (fun r => hearsL2 (farM f) f l r.bl == r.hd) wr ?hR9 (by have := (HS.out.each c HCM.out).2; omega) (fun _ h => h) (fits1_fn wr w1.heap.size (w.heap.size + 1) D wb wo _ s2 f (farM f) c l (HDK.out.ext (hx13.trans h3)) (hrk.ext (hx13.trans h3)) HOK.out HCM.out e0 d0 (HWC.out wr h3) HLN.out HB2.out)
      case hR9 =>
        obtain ⟨A1', c1', A2', c2', ev, -, hrp, -⟩ := HCR.out
        simp at ev
        obtain ⟨-, rfl, rfl⟩ := ev
        exact Rows.ext hrp h3
      have HALL : Hid ((c.rp.all fun r => hearsL2 (farM f) f l r.bl == r.hd) = VV) := by
        unfold Hid
        rw [← HFV.out]
        unfold fitsM heardAll
        rw [decide_eq_true HLN.out, HB2.out, HB3.out, HMI.out, hst]; rfl
      rw [HALL.out] at K
      have HK := hid K
      clear K hst
      go_wp2_with fail
      refine HK.out.mono ?_
      rintro e w12 ⟨rfl, hb12⟩
      go_wp2
      go_ret2
      exact ⟨by rw [HE2.out]; rfl, (hx3.trans h3).trans hb12⟩
end Go.Proofs.YtlonpgbapiemcaaGreat
