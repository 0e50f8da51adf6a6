/- The walk of fog.Met. Printed by my gen_fmet.py. -/
import Derived.Test.YtpbpcplboikpcaaGreatG4
import Derived.Test.YtpbpcplboikpcaaGreatFStillP
namespace Go.Proofs.YtpbpcplboikpcaaGreat
open Go Go.RowKit Go.Shelf
set_option linter.unusedVariables false
set_option linter.unusedSimpArgs false

def metE (f : Fg) (k b : Int) : Int := if cartE f k ≠ 0 then cartE f k else if ctOK f b then (if lostF (farM f) f (ctAt f k) || lostF (farM f) f (ctAt f b) then 7 else 0) else 1
def metV (f : Fg) (k b : Int) : List Int := if metE f k b = 0 then metM (farM f) f (ctAt f k) (ctAt f b) else []
def MetPost (w : World) (f : Fg) (k b : Int) (e : Ending) (w' : World) : Prop := ∃ r, e = .returned (.tuple #[r, .int .i64 (metE f k b)]) ∧ Ext w w' ∧ IntsR w' r (metV f k b)
theorem met_any (g : Mat) (f : Fg) (c d : Ct) (m : Nat) : (natI (canN g f c m)).any (fun x => memI x (natI (canN g f d m))) = metAt g f c d m := by
  unfold metAt inCan natI; rw [List.any_map]; rfl
theorem IntRows.kc {w w' : World} {A : Option Addr} {ls : List (List Int)} (h : IntRows w A ls) (hx : Kc w w') : IntRows w' A ls := by
  obtain ⟨xs, h1, h2, h3⟩ := h
  refine ⟨xs, h1.kc hx, h2, fun i l hi => ?_⟩
  obtain ⟨A', k, e, hI, hk⟩ := h3 i l hi
  exact ⟨A', k, e, hI.kc hx, hk⟩
/-- A store into a cell that holds no row leaves rows that are not empty as they were. -/
theorem IntRows.store {w : World} {A : Option Addr} {ls : List (List Int)} {B : Nat} (h : IntRows w A ls) (hz : w.cell? ⟨B, 0, none⟩ = some (.slice none 0 0)) (hne : ∀ l ∈ ls, l ≠ []) (v : Value) : IntRows (w.setCell ⟨B, 0, none⟩ v) A ls := by
  obtain ⟨xs, h1, h2, h3⟩ := h
  have hk : ∀ p u, w.cell? p = some u → u ≠ .slice none 0 0 → (w.setCell ⟨B, 0, none⟩ v).cell? p = some u := by
    intro p u hp hu
    by_cases e : p = ⟨B, 0, none⟩
    · rw [e, hz] at hp; cases hp; exact absurd rfl hu
    · rw [World.cell?_setCell_other (h := fun h => e h.symm)]; exact hp
  refine ⟨xs, ?_, h2, fun i l hi => ?_⟩
  · rcases h1 with h | ⟨b, off, rfl, hc⟩
    · exact .inl h
    · refine .inr ⟨b, off, rfl, fun j u hj => hk _ _ (hc j u hj) ?_⟩
      have hjl : j < ls.length := by have := (List.getElem?_eq_some_iff.1 hj).1; omega
      obtain ⟨A', k, e, -, -⟩ := h3 j _ (List.getElem?_eq_getElem hjl)
      rw [hj] at e
      cases e
      intro e
      injection e with _ e2 _
      exact hne _ (List.getElem_mem hjl) (List.eq_nil_of_length_eq_zero e2)
  · obtain ⟨A', k, e, hI, hkk⟩ := h3 i l hi
    refine ⟨A', k, e, ?_, hkk⟩
    rcases hI with h | ⟨b, off, rfl, hc⟩
    · exact .inl h
    · refine .inr ⟨b, off, rfl, fun j u hj => hk _ _ (hc j u hj) ?_⟩
      obtain ⟨h4, h5⟩ := List.getElem?_eq_some_iff.1 hj
      rw [← h5, List.getElem_map]
      intro e
      cases e
def metTo (f : Fg) (c d : Ct) (m : Nat) : List Int := natI ((List.range m).filter (metAt (farM f) f c d))
theorem metTo_next (f : Fg) (c d : Ct) (m : Nat) : metTo f c d (m + 1) = metTo f c d m ++ if metAt (farM f) f c d m then [(m : Int)] else [] := by
  unfold metTo natI
  rw [List.range_succ, List.filter_append, List.map_append]
  cases h : metAt (farM f) f c d m <;> simp [h]
theorem metTo_len (f : Fg) (c d : Ct) (m : Nat) : (metTo f c d m).length ≤ m := by
  unfold metTo natI
  rw [List.length_map]
  exact Nat.le_trans (List.length_filter_le _ _) (by simp)
set_option maxRecDepth 100000 in
set_option maxHeartbeats 1000000 in
theorem met1_fn (w : World) (B1 B2 m : Nat) (Ad : Addr) (kd : Nat) (f : Fg) (d : Ct) (h8 : f.pl ≤ 8) (hm : m ≤ f.mi.toNat) (h1 : w.cell? ⟨B1, 0, none⟩ = some (.slice (some Ad) (f.mi.toNat + 1) kd)) (h2 : w.cell? ⟨B2, 0, none⟩ = some (.int .i64 (m : Int))) (hI : IntRows w (some Ad) (canL (farM f) f d)) :
    FnP Tryz.prog (.func (.func 154) #[] #[.pointer (some ⟨B1, 0, none⟩), .pointer (some ⟨B2, 0, none⟩)]) w IntR anyx (fun x => memI x (natI (canN (farM f) f d m))) := by
  refine ⟨_, _, _, rfl, enters_of Tryz.func154 (by kernel_rfl) rfl, fun x v W hs hW hR => ?_⟩
  obtain rfl : v = .int .i64 x := hR
  have c1 := hW.cell h1
  have c2 := hW.cell h2
  obtain ⟨rb, ro, A7, k7, eA, q0, hI7, hk7⟩ := (IntRows.kc hI hW).at_ (canL_get hm)
  cases eA
  have hml : (m : Int) < (f.mi.toNat : Int) + 1 := by omega
  show Calls _ _ #[_, _, _] _ _
  go_enter Tryz.func154, Tryz.ntmps154
  go_wp2_with fail
  refine (containsI_any x A7 k7 (natI (canN (farM f) f d m)) _ hI7 ?hl7).mono ?_
  case hl7 =>
    have := (canN_lt (g := farM f) (c := d) h8 m).2
    omega
  rintro e w1 ⟨rfl, h⟩
  subst h
  go_wp2
  go_ret
  exact ⟨rfl, Ext.refl _⟩
theorem met_free {w : World} {B i : Nat} {cs : Array Value} {T : TypeId} (h : w.heap[B]? = some (.cells cs T (0, 0))) : w.frozen? ⟨B, i, none⟩ = false := by simp [World.frozen?, h]
set_option maxRecDepth 100000 in
set_option maxHeartbeats 8000000 in
theorem metx_any (v : Value) (f : Fg) (k b : Int) (w : World) (hf : FgR w v f) (hs : f.sized) :
    Calls Tryz.prog 58 #[v, .int .i64 k, .int .i64 b] w (MetPost w f k b) := by
  have hnil := @Lib.run_eql_slice_nil Tryz.prog
  obtain ⟨s, rfl, hr⟩ := hf.rows
  obtain ⟨T, hT⟩ : ∃ T, cartE f k = T := ⟨_, rfl⟩
  have HT := hid hT
  clear hT
  have HS := hid hs
  have HX0 : Hid (Ext w (w.alloc (.cells #[.int .i64 f.pl, .int .i64 f.mi, .slice s.a1 f.tr.length s.c1, .slice s.a2 f.bl.length s.c2, .slice s.a3 f.ct.length s.c3] 28))) := Ext.alloc (Ext.refl w) _
  show Calls _ _ #[.agg #[.int .i64 f.pl, .int .i64 f.mi, .slice s.a1 f.tr.length s.c1, .slice s.a2 f.bl.length s.c2, .slice s.a3 f.ct.length s.c3], .int .i64 k, .int .i64 b] _ _
  go_enter Tryz.func58, Tryz.ntmps58
  go_wp2_with fail
  refine (carted_any (.agg #[.int .i64 f.pl, .int .i64 f.mi, .slice s.a1 f.tr.length s.c1, .slice s.a2 f.bl.length s.c2, .slice s.a3 f.ct.length s.c3]) f k _ (FRows.fg (hr.ext HX0.out)) HS.out).mono ?_
  rintro e w1 ⟨r, rfl, hb1, hr1, hr2⟩
  have hx1 := HX0.out.trans hb1
  have kc0 := hb1.cell (p := ⟨w.heap.size, 0, none⟩) (u := .int .i64 f.pl) (by simp [go_sem])
  have kc1 := hb1.cell (p := ⟨w.heap.size, 1, none⟩) (u := .int .i64 f.mi) (by simp [go_sem])
  have kc2 := hb1.cell (p := ⟨w.heap.size, 2, none⟩) (u := .slice s.a1 f.tr.length s.c1) (by simp [go_sem])
  have kc3 := hb1.cell (p := ⟨w.heap.size, 3, none⟩) (u := .slice s.a2 f.bl.length s.c2) (by simp [go_sem])
  have kc4 := hb1.cell (p := ⟨w.heap.size, 4, none⟩) (u := .slice s.a3 f.ct.length s.c3) (by simp [go_sem])
  clear HX0 hb1
  rw [HT.out]
  by_cases h0 : T = 0
  case neg =>
    have HE0 : Hid (cartE f k ≠ 0) := by unfold Hid; rw [HT.out]; exact h0
    have hr3 := hr2 HE0.out
    subst hr3
    clear hr1 hr2
    have HN : Hid (metE f k b = T) := by unfold Hid metE; rw [if_pos HE0.out, HT.out]
    have HV : Hid (metV f k b = []) := by unfold Hid metV; rw [HN.out, if_neg h0]
    have hneT := neqE h0
    go_wp2
    go_ret2
    exact ⟨.slice none 0 0, by rw [HN.out]; rfl, hx1, by rw [HV.out]; exact IntsR.nil _⟩
  subst h0
  obtain ⟨D, s2, hrD, hdk, hrk⟩ := hr1 HT.out
  subst hrD
  clear hr1 hr2
  obtain ⟨hce, hk0, hk1⟩ := cartE_ok HT.out
  have HOK : Hid (FogOK f) := checkF_ok hce
  obtain ⟨kn, rfl⟩ : ∃ kn : Nat, k = kn := ⟨k.toNat, by omega⟩
  have hkl : kn < f.ct.length := by omega
  have hkl' : (kn : Int) < (f.ct.length : Int) := by omega
  obtain ⟨c, hcg⟩ := get_of_lt f.ct kn hkl
  have HCM : Hid (c ∈ f.ct) := mem_of_get hcg
  have HCA : Hid (ctAt f (kn : Int) = c) := by unfold Hid ctAt; rw [Int.toNat_natCast, List.getD_eq_getElem?_getD, hcg]; rfl
  obtain ⟨cb, co, A1, c1, A2, c2, hA3, cc0, cc1, hCS, hCR, hck1, hck2⟩ := (hr.ct.ext hx1).at_ hcg
  have HA3 := hid hA3
  have HDK := hid hdk
  rw [hA3] at kc4
  rw [HA3.out]
  have hcR : CtR w1 (.agg #[.slice A1 c.st.length c1, .slice A2 c.rp.length c2]) c := ⟨A1, c1, A2, c2, rfl, hCS, hCR, hck1, hck2⟩
  clear hk0 hk1 hce hcg hA3 hkl
  have HCE : Hid (cartE f (kn : Int) = 0) := HT
  go_wp2_with fail
  refine (cart_any (.agg #[.int .i64 f.pl, .int .i64 f.mi, .slice s.a1 f.tr.length s.c1, .slice s.a2 f.bl.length s.c2, .slice (some ⟨cb, co, none⟩) f.ct.length s.c3]) f b w1 (by have := FRows.fg (hr.ext hx1); unfold Ads.val fval at this; rw [HA3.out] at this; exact this) (by have := HS.out.ct; omega)).mono ?_
  rintro e w2 ⟨rfl, hb2⟩
  have hx2 := hx1.trans hb2
  have hx12 := hb2
  have k4 := hb2.cell kc4
  have k5 := hb2.cell cc0
  have k6 := hb2.cell cc1
  cases hq : ctOK f b
  · have HN : Hid (metE f kn b = 1) := by unfold Hid metE; rw [if_neg (fun h => h HCE.out), hq]; rfl
    have HV : Hid (metV f kn b = []) := by unfold Hid metV; rw [HN.out]; rfl
    go_wp2
    go_ret2
    exact ⟨.slice none 0 0, by rw [HN.out]; rfl, hx2, by rw [HV.out]; exact IntsR.nil _⟩
  have hbb := inB_iff.1 hq
  obtain ⟨bn, rfl⟩ : ∃ bn : Nat, b = bn := ⟨b.toNat, by omega⟩
  have HQ := hid hq
  have hbl : bn < f.ct.length := by omega
  have hbl' : (bn : Int) < (f.ct.length : Int) := by omega
  obtain ⟨d, hdg⟩ := get_of_lt f.ct bn hbl
  have HDM : Hid (d ∈ f.ct) := mem_of_get hdg
  have HDA : Hid (ctAt f (bn : Int) = d) := by unfold Hid ctAt; rw [Int.toNat_natCast, List.getD_eq_getElem?_getD, hdg]; rfl
  obtain ⟨cb', co', A3, c3, A4, c4, hA3', dd0, dd1, hDS, hDR, hdk1, hdk2⟩ := (hr.ct.ext hx2).at_ hdg
  have hcbe : cb' = cb ∧ co' = co := by
    have h := HA3.out
    rw [hA3'] at h
    injection h with h
    injection h with h1 h2
    exact ⟨h1, h2⟩
  obtain ⟨rfl, rfl⟩ := hcbe
  have HcR : Hid (CtR w2 (.agg #[.slice A1 c.st.length c1, .slice A2 c.rp.length c2]) c) := hcR.ext hb2
  have HdR : Hid (CtR w2 (.agg #[.slice A3 d.st.length c3, .slice A4 d.rp.length c4]) d) := ⟨A3, c3, A4, c4, rfl, hDS, hDR, hdk1, hdk2⟩
  obtain ⟨Mi, hMi⟩ : ∃ Mi : Nat, f.mi.toNat = Mi := ⟨_, rfl⟩
  have HMI := hid hMi
  have hm8 : Mi ≤ 8 := by have := HOK.out.mi; omega
  have hpl8 := HOK.out.pl
  clear hq hbb hdg hA3' hDS hDR hdk1 hdk2 kc0 kc1 kc2 kc3 kc4 cc0 cc1 hMi
  have FX : Hid (∀ w', Ext w2 w' → w'.cell? ⟨w.heap.size, 4, none⟩ = some (.slice (some ⟨cb', co', none⟩) f.ct.length s.c3) ∧ w'.cell? ⟨cb', co' + kn * 2, none⟩ = some (.slice A1 c.st.length c1) ∧ w'.cell? ⟨cb', co' + kn * 2 + 1, none⟩ = some (.slice A2 c.rp.length c2) ∧ w'.cell? ⟨cb', co' + bn * 2, none⟩ = some (.slice A3 d.st.length c3) ∧ w'.cell? ⟨cb', co' + bn * 2 + 1, none⟩ = some (.slice A4 d.rp.length c4)) := fun w' h => ⟨h.cell k4, h.cell k5, h.cell k6, h.cell dd0, h.cell dd1⟩
  clear k4 k5 k6 dd0 dd1 hcR
  have E : ctOK f (bn : Int) = true := HQ.out
  clear E
  go_wp2
  refine wp_region_shut_tail Ext (fun w' => Ext w2 w') (fun
    | 6 => some (fun v wz => (lostF (farM f) f c = true → v = .slice none 0 0) ∧ (lostF (farM f) f c = false → ∃ A k, v = .slice (some A) (f.mi.toNat + 1) k ∧ IntRows wz (some A) (canL (farM f) f c) ∧ f.mi.toNat + 1 ≤ k))
    | 13 => some (fun v wz => (lostF (farM f) f d = true → v = .slice none 0 0) ∧ (lostF (farM f) f d = false → ∃ A k, v = .slice (some A) (f.mi.toNat + 1) k ∧ IntRows wz (some A) (canL (farM f) f d) ∧ f.mi.toNat + 1 ≤ k))
    | 14 => some (fun v w' => ∃ B, v = .pointer (some ⟨B, 0, none⟩) ∧ w2.heap.size ≤ B ∧ w'.heap[B]? = some (.cells #[.slice none 0 0] 35 (0, 0)))
    | _ => none) 15 (by kernel_rfl) (by kernel_rfl) (fun _ _ h k => h.trans k) ?hTm (Ext.drew (Ext.refl w2)) ?_
  case hTm =>
    intro i R hR
    match i, hR with
    | 6, hR => cases hR; exact fun _ _ _ ⟨h1, h2⟩ k => ⟨h1, fun h => by obtain ⟨A, k', e1, e2, e3⟩ := h2 h; exact ⟨A, k', e1, e2.ext k, e3⟩⟩
    | 13, hR => cases hR; exact fun _ _ _ ⟨h1, h2⟩ k => ⟨h1, fun h => by obtain ⟨A, k', e1, e2, e3⟩ := h2 h; exact ⟨A, k', e1, e2.ext k, e3⟩⟩
    | 14, hR => cases hR; exact fun _ _ _ ⟨B, h1, h2, h3⟩ k => ⟨B, h1, h2, (Below.block k _ (Array.getElem?_eq_some_iff.1 h3).1).trans h3⟩
  refine wM_val ?um0 rfl rfl Ext.refl (fun w' hD => ?hm0) (fun phm0 => ?nm0)
  case hm0 =>
    obtain ⟨d0, d1, d2, d3, d4⟩ := FX.out w' hD.1
    go_simp; rfl
  simp only [Act.put, List.setIfInBounds_toArray, List.set_cons_succ, List.set_cons_zero, Nat.reduceAdd]
  refine wM_val ?um1 rfl rfl Ext.refl (fun w' hD => ?hm1) (fun phm1 => ?nm1)
  case hm1 =>
    obtain ⟨d0, d1, d2, d3, d4⟩ := FX.out w' hD.1
    go_simp; rfl
  simp only [Act.put, List.setIfInBounds_toArray, List.set_cons_succ, List.set_cons_zero, Nat.reduceAdd]
  refine wM_val ?um2 rfl rfl Ext.refl (fun w' hD => ?hm2) (fun phm2 => ?nm2)
  case hm2 =>
    obtain ⟨d0, d1, d2, d3, d4⟩ := FX.out w' hD.1
    go_simp; rfl
  simp only [Act.put, List.setIfInBounds_toArray, List.set_cons_succ, List.set_cons_zero, Nat.reduceAdd]
  refine wM_val ?um3 rfl rfl Ext.refl (fun w' hD => ?hm3) (fun phm3 => ?nm3)
  case hm3 =>
    obtain ⟨d0, d1, d2, d3, d4⟩ := FX.out w' hD.1
    go_simp; rfl
  simp only [Act.put, List.setIfInBounds_toArray, List.set_cons_succ, List.set_cons_zero, Nat.reduceAdd]
  refine wM_val ?um4 rfl rfl Ext.refl (fun w' hD => ?hm4) (fun phm4 => ?nm4)
  case hm4 =>
    obtain ⟨d0, d1, d2, d3, d4⟩ := FX.out w' hD.1
    go_simp; rfl
  simp only [Act.put, List.setIfInBounds_toArray, List.set_cons_succ, List.set_cons_zero, Nat.reduceAdd]
  refine wM_val ?um5 rfl rfl Ext.refl (fun w' hD => ?hm5) (fun phm5 => ?nm5)
  case hm5 =>
    obtain ⟨d0, d1, d2, d3, d4⟩ := FX.out w' hD.1
    go_simp; rfl
  simp only [Act.put, List.setIfInBounds_toArray, List.set_cons_succ, List.set_cons_zero, Nat.reduceAdd]
  refine wM_op _ rfl rfl (opens_call ?fm6 ?gm6 (fun w' hD => ?hm6) (fun w' hD => ?cm6)) (fun v6 hv6 => ?nm6)
  case hm6 => go_simp; constructor <;> rfl
  case cm6 =>
    refine (can_any D s2 f (farM f) c (.agg #[.slice A1 c.st.length c1, .slice A2 c.rp.length c2]) w' (HDK.out.ext (hx12.trans hD.1)) (hrk.ext (hx12.trans hD.1)) HOK.out HCM.out ((HcR.out).ext hD.1)).mono ?_
    rintro e w9 ⟨vv, rfl, hb, hl1, hl2⟩
    exact ⟨_, rfl, hb, hl1, hl2⟩
  obtain ⟨_, -, -, -⟩ := hv6
  simp only [Act.put, List.setIfInBounds_toArray, List.set_cons_succ, List.set_cons_zero, Nat.reduceAdd]
  refine wM_val ?um7 rfl rfl Ext.refl (fun w' hD => ?hm7) (fun phm7 => ?nm7)
  case hm7 =>
    obtain ⟨d0, d1, d2, d3, d4⟩ := FX.out w' hD.1
    go_simp; rfl
  simp only [Act.put, List.setIfInBounds_toArray, List.set_cons_succ, List.set_cons_zero, Nat.reduceAdd]
  refine wM_val ?um8 rfl rfl Ext.refl (fun w' hD => ?hm8) (fun phm8 => ?nm8)
  case hm8 =>
    obtain ⟨d0, d1, d2, d3, d4⟩ := FX.out w' hD.1
    go_simp; rfl
  simp only [Act.put, List.setIfInBounds_toArray, List.set_cons_succ, List.set_cons_zero, Nat.reduceAdd]
  refine wM_val ?um9 rfl rfl Ext.refl (fun w' hD => ?hm9) (fun phm9 => ?nm9)
  case hm9 =>
    obtain ⟨d0, d1, d2, d3, d4⟩ := FX.out w' hD.1
    go_simp; rfl
  simp only [Act.put, List.setIfInBounds_toArray, List.set_cons_succ, List.set_cons_zero, Nat.reduceAdd]
  refine wM_val ?um10 rfl rfl Ext.refl (fun w' hD => ?hm10) (fun phm10 => ?nm10)
  case hm10 =>
    obtain ⟨d0, d1, d2, d3, d4⟩ := FX.out w' hD.1
    go_simp; rfl
  simp only [Act.put, List.setIfInBounds_toArray, List.set_cons_succ, List.set_cons_zero, Nat.reduceAdd]
  refine wM_val ?um11 rfl rfl Ext.refl (fun w' hD => ?hm11) (fun phm11 => ?nm11)
  case hm11 =>
    obtain ⟨d0, d1, d2, d3, d4⟩ := FX.out w' hD.1
    go_simp; rfl
  simp only [Act.put, List.setIfInBounds_toArray, List.set_cons_succ, List.set_cons_zero, Nat.reduceAdd]
  refine wM_val ?um12 rfl rfl Ext.refl (fun w' hD => ?hm12) (fun phm12 => ?nm12)
  case hm12 =>
    obtain ⟨d0, d1, d2, d3, d4⟩ := FX.out w' hD.1
    go_simp; rfl
  simp only [Act.put, List.setIfInBounds_toArray, List.set_cons_succ, List.set_cons_zero, Nat.reduceAdd]
  refine wM_op _ rfl rfl (opens_call ?fm13 ?gm13 (fun w' hD => ?hm13) (fun w' hD => ?cm13)) (fun v13 hv13 => ?nm13)
  case hm13 => go_simp; constructor <;> rfl
  case cm13 =>
    refine (can_any D s2 f (farM f) d (.agg #[.slice A3 d.st.length c3, .slice A4 d.rp.length c4]) w' (HDK.out.ext (hx12.trans hD.1)) (hrk.ext (hx12.trans hD.1)) HOK.out HDM.out ((HdR.out).ext hD.1)).mono ?_
    rintro e w9 ⟨vv, rfl, hb, hl1, hl2⟩
    exact ⟨_, rfl, hb, hl1, hl2⟩
  obtain ⟨_, -, -, -⟩ := hv13
  simp only [Act.put, List.setIfInBounds_toArray, List.set_cons_succ, List.set_cons_zero, Nat.reduceAdd]
  refine wM_op _ rfl rfl (opens_val (fun w' hD => ?hm14)) (fun v14 hv14 => ?nm14)
  case hm14 =>
    refine ⟨.pointer (some ⟨w'.heap.size, 0, none⟩), w'.alloc (.cells #[.slice none 0 0] 35), ?_, Ext.alloc (Ext.refl _) _, ⟨w'.heap.size, rfl, by have := hD.1.size; omega, heap_alloc_new w' _⟩⟩
    go_simp
  obtain ⟨_, _, _, B3, rfl, _, _⟩ := hv14
  simp only [Act.put, List.setIfInBounds_toArray, List.set_cons_succ, List.set_cons_zero, Nat.reduceAdd]
  refine wM_nil ?_
  intro w9 hw9 hF9
  obtain ⟨-, r1, r2⟩ := hF9 6
  obtain ⟨-, r3, r4⟩ := hF9 13
  obtain ⟨-, B', e3, hB3, g3⟩ := hF9 14
  cases e3
  clear hF9 FX
  simp only [List.drop_succ_cons, List.drop_zero]
  have z0 := block_cell (i := 0) g3
  simp only [List.getElem?_toArray, List.getElem?_cons_zero, List.getElem?_cons_succ] at z0
  have zf := met_free (i := 0) g3
  have hx9 := hx2.trans hw9
  cases hl2 : lostF (farM f) f d
  case true =>
    have e2 := r3 hl2
    subst e2
    cases hl1 : lostF (farM f) f c
    case true =>
      have e1 := r1 hl1
      subst e1
      have HN : Hid (metE f kn bn = 7) := by unfold Hid metE; rw [if_neg (fun h => h HCE.out), HQ.out, HCA.out, HDA.out, hl1, hl2]; rfl
      have HV : Hid (metV f kn bn = []) := by unfold Hid metV; rw [HN.out]; rfl
      clear r1 r2 r3 r4 hl1 hl2
      have hxs := hx9.setCell (p := ⟨B3, 0, none⟩) (by have := hx2.size; show w.heap.size ≤ B3; omega) (.slice none 0 0)
      go_wp2
      go_ret2
      exact ⟨.slice none 0 0, by rw [HN.out]; rfl, hxs, by rw [HV.out]; exact IntsR.nil _⟩
    obtain ⟨Ac, kc, e1, hIc, hkc⟩ := r2 hl1
    subst e1
    have HN : Hid (metE f kn bn = 7) := by unfold Hid metE; rw [if_neg (fun h => h HCE.out), HQ.out, HCA.out, HDA.out, hl1, hl2]; rfl
    have HV : Hid (metV f kn bn = []) := by unfold Hid metV; rw [HN.out]; rfl
    clear r1 r2 r3 r4 hl1 hl2 hIc
    have hxs := hx9.setCell (p := ⟨B3, 0, none⟩) (by have := hx2.size; show w.heap.size ≤ B3; omega) (.slice none 0 0)
    go_wp2
    go_ret2
    exact ⟨.slice none 0 0, by rw [HN.out]; rfl, hxs, by rw [HV.out]; exact IntsR.nil _⟩
  obtain ⟨Ad, kd, e2, hId, hkd⟩ := r4 hl2
  subst e2
  cases hl1 : lostF (farM f) f c
  case true =>
    have e1 := r1 hl1
    subst e1
    have HN : Hid (metE f kn bn = 7) := by unfold Hid metE; rw [if_neg (fun h => h HCE.out), HQ.out, HCA.out, HDA.out, hl1, hl2]; rfl
    have HV : Hid (metV f kn bn = []) := by unfold Hid metV; rw [HN.out]; rfl
    clear r1 r2 r3 r4 hl1 hl2 hId
    have hxs := hx9.setCell (p := ⟨B3, 0, none⟩) (by have := hx2.size; show w.heap.size ≤ B3; omega) (.slice (some Ad) (f.mi.toNat + 1) kd)
    go_wp2
    go_ret2
    exact ⟨.slice none 0 0, by rw [HN.out]; rfl, hxs, by rw [HV.out]; exact IntsR.nil _⟩
  obtain ⟨Ac, kc, e1, hIc, hkc⟩ := r2 hl1
  subst e1
  have HN : Hid (metE f kn bn = 0) := by unfold Hid metE; rw [if_neg (fun h => h HCE.out), HQ.out, HCA.out, HDA.out, hl1, hl2]; rfl
  have HV : Hid (metV f kn bn = metTo f c d (Mi + 1)) := by unfold Hid metV; rw [HN.out, HCA.out, HDA.out, ← HMI.out]; rfl
  obtain ⟨W5, hW5⟩ : ∃ W5, w9.setCell ⟨B3, 0, none⟩ (.slice (some Ad) (f.mi.toNat + 1) kd) = W5 := ⟨_, rfl⟩
  have hs5 : BelS (fun j => j = B3) w9 W5 := by rw [← hW5]; exact (BelS.refl _ w9).setCell (S := fun j => j = B3) ⟨B3, 0, none⟩ _ rfl
  have h25 : Ext w2 W5 := by rw [← hW5]; exact hw9.setCell (p := ⟨B3, 0, none⟩) (by show w2.heap.size ≤ B3; omega) _
  have HB3 : Hid (∀ w', Ext W5 w' → w'.cell? ⟨B3, 0, none⟩ = some (.slice (some Ad) (Mi + 1) kd)) := fun w' h => h.cell (by rw [← hW5, ← HMI.out]; simp [go_sem, z0])
  have HIC : Hid (IntRows W5 (some Ac) (canL (farM f) f c)) := by unfold Hid; rw [← hW5]; exact hIc.store z0 (canL_ne HOK.out HCM.out hl1) _
  have HID : Hid (IntRows W5 (some Ad) (canL (farM f) f d)) := by unfold Hid; rw [← hW5]; exact hId.store z0 (canL_ne HOK.out HDM.out hl2) _
  rw [HMI.out] at hkc hkd
  have y0 := HB3.out W5 (Ext.refl _)
  have X5 := hx2.trans h25
  clear r1 r2 r3 r4 hl1 hl2 hIc hId hs5 hw9 hx9 g3 hb2 hx12 hx2
  rw [HMI.out]
  go_wp2_with fail
  try rw [HMI.out] at hW5
  try rw [hW5]
  clear hW5 z0 zf y0
  go_loopw [52, 12] (fun i52 i12 wr => ∃ (m : Nat) (A : Option Addr) (ka : Nat), m ≤ Mi + 1 ∧ i52 = .int .i64 (m : Int) ∧ i12 = .slice A (metTo f c d m).length ka ∧ Hid (wr.ownsRow W5.heap.size 3 1 (.slice A (metTo f c d m).length ka) (metTo f c d m).length ((metTo f c d m).map (Value.int .i64))) ∧ Ext W5 wr) (fun i _ _ => Mi + 1 - (intOf i).toNat)
  case atStart => exact ⟨0, none, 0, Nat.zero_le _, rfl, rfl, own_nil _ _ _ _, Ext.refl _⟩
  case round =>
    obtain ⟨m, A, ka, hk, rfl, rfl, OA, hx⟩ := hrel
    have hll := metTo_len f c d m
    by_cases hlt : m < Mi + 1
    · have hlt' : (m : Int) < (Mi : Int) + 1 := by omega
      have hmi : m ≤ f.mi.toNat := by rw [HMI.out]; omega
      obtain ⟨rb, ro, A7, k7, eA9, q0, hI7, hk7⟩ := (HIC.out.ext hx).at_ (canL_get hmi)
      rw [eA9]
      obtain ⟨Wx, hWx⟩ : ∃ Wx, wr.alloc (.cells #[.int .i64 (m : Int)] 3) = Wx := ⟨_, rfl⟩
      have hxx : Ext wr Wx := by rw [← hWx]; exact Ext.alloc (Ext.refl _) _
      have y1 : Wx.cell? ⟨wr.heap.size, 0, none⟩ = some (.int .i64 (m : Int)) := by rw [← hWx]; simp [go_sem]
      have K := containsFunc_int A7 k7 (natI (canN (farM f) f c m)) _ anyx (fun x => memI x (natI (canN (farM f) f d m))) Wx (hI7.ext hxx) (by have := (canN_lt (g := farM f) (c := c) hpl8.2 m).2; omega) (fun _ _ => trivial) (met1_fn Wx B3 wr.heap.size m Ad kd f d hpl8.2 hmi (by rw [HMI.out]; exact HB3.out Wx (hx.trans hxx)) y1 (HID.out.ext (hx.trans hxx)))
      rw [met_any] at K
      obtain ⟨MB, hMB⟩ : ∃ MB, metAt (farM f) f c d m = MB := ⟨_, rfl⟩
      rw [hMB] at K
      have HK := hid K
      have HNX := hid (metTo_next f c d m)
      have HMB := hid hMB
      clear K hMB hI7 hk7 eA9
      go_wp2_with fail
      try rw [hWx]
      clear hWx q0
      refine HK.out.mono ?_
      clear HK
      rintro e w6 ⟨rfl, hb6⟩
      have h6 := hxx.trans hb6
      have X6 := hid (hx.trans h6)
      have OA6 := hid (own_below OA.out h6)
      have y2 := hb6.cell y1
      clear y1 OA hxx hb6
      cases MB
      · have HSM : Hid (metTo f c d (m + 1) = metTo f c d m) := by unfold Hid; rw [HNX.out, HMB.out]; simp
        clear HNX HMB
        go_wp2
        go_roundw
        case rel => exact ⟨m + 1, A, ka, by omega, by go_num, by rw [HSM.out], by rw [HSM.out]; exact OA6, X6.out⟩
        case measure => simp [intOf]; omega
      · have HSM : Hid (metTo f c d (m + 1) = metTo f c d m ++ [(m : Int)]) := by unfold Hid; rw [HNX.out, HMB.out]; simp
        obtain ⟨W7, hW7⟩ : ∃ W7, w6.alloc (.cells #[.int .i64 (m : Int)] 3) = W7 := ⟨_, rfl⟩
        have hx7 : Ext w6 W7 := by rw [← hW7]; exact Ext.alloc (Ext.refl _) _
        have HRD : Hid (Rd W7 (some ⟨w6.heap.size, 0, none⟩) [.int .i64 (m : Int)]) := .inr ⟨w6.heap.size, 0, rfl, fun j u hu => by
          match j, hu with
          | 0, hu => cases hu; rw [← hW7]; simp [go_sem]
          | j + 1, hu => simp at hu⟩
        have OW7 := hid (own_below OA6.out hx7)
        have hxw7 := hid (X6.out.trans hx7)
        have hsz7 := hxw7.out.size
        have HNV : Hid ((metTo f c d m).map (Value.int .i64) ++ [.int .i64 (m : Int)] = (metTo f c d (m + 1)).map (Value.int .i64)) := by unfold Hid; rw [HSM.out]; simp
        have HLE : Hid ((metTo f c d (m + 1)).length = (metTo f c d m).length + 1) := by unfold Hid; rw [HSM.out]; simp
        have hnb : ((metTo f c d m).length + 1) * 8 ≤ 140737488355328 := by omega
        clear OA6 HNX HMB HSM X6
        go_wp2_with (at_builtin; (try rw [hW7]); refine wpList_append_rd2 _ rfl _ _ 42 rfl elem_int W5.heap.size _ (metTo f c d m).length ((metTo f c d m).map (Value.int .i64)) rfl OW7.out (some ⟨w6.heap.size, 0, none⟩) 1 1 [.int .i64 (m : Int)] rfl rfl HRD.out (by intro u hu; simp at hu; subst hu; rfl) hnb hsz7 ?_)
        intro A6 k6 W6 own6 hbel6 hgr6 hloc6
        rw [HNV.out] at own6
        have hxw6 : Ext W5 W6 := Ext.grown hxw7.out hgr6 (fun k e => (OW7.out.lt k e).1)
        have HO6 := hid own6
        clear own6 hloc6 hgr6 hbel6
        go_wp2
        go_roundw
        case rel => exact ⟨m + 1, A6, k6, by omega, by go_num, by rw [HLE.out], by rw [HLE.out]; exact HO6, hxw6⟩
        case measure => simp [intOf]; omega
    · have hlt' : ¬ (m : Int) < (Mi : Int) + 1 := by omega
      have hkP : m = Mi + 1 := by omega
      subst hkP
      go_wp2
      go_ret2
      refine ⟨_, by rw [HN.out]; rfl, X5.trans hx, ?_⟩
      rw [HV.out]
      exact ⟨A, ka, rfl, Rd.of_own OA.out, own_cap OA.out⟩
end Go.Proofs.YtpbpcplboikpcaaGreat
