/- The walk of fog.Walk. Printed by my gen_fwalk.py. -/
import Derived.Test.YtlonpgbapiemcaaGreatFFits
import Derived.Test.YtlonpgbapiemcaaGreatFStillP
import Derived.OwnWalk
namespace Go.Proofs.YtlonpgbapiemcaaGreat
open Go Go.RowKit Go.Shelf
set_option linter.unusedVariables false
set_option linter.unusedSimpArgs false

theorem idxF_found {α : Type} (p : α → Bool) : ∀ (l : List α) (i : Nat), (∃ x ∈ l, p x = true) → ∃ k x, idxF p l i = ((i + k : Nat) : Int) ∧ l[k]? = some x ∧ p x = true
  | [], i, h => by obtain ⟨x, hx, _⟩ := h; cases hx
  | x :: l, i, h => by
    unfold idxF
    cases hp : p x
    · obtain ⟨y, hy, hq⟩ := h
      rcases List.mem_cons.1 hy with rfl | hy
      · rw [hp] at hq; cases hq
      · obtain ⟨k, z, h1, h2, h3⟩ := idxF_found p l (i + 1) ⟨y, hy, hq⟩
        exact ⟨k + 1, z, by rw [if_neg (by simp), h1]; congr 1; omega, by simpa using h2, h3⟩
    · exact ⟨0, x, by simp, rfl, hp⟩
set_option maxRecDepth 100000 in
set_option maxHeartbeats 1000000 in
theorem walk11_fn (w : World) (Bd Bp D : Nat) (s : Ads) (f : Fg) (g : Mat) (p : Nat) (hd : Dk w D s f g) (hp : p < 8) (hB : w.cell? ⟨Bd, 0, none⟩ = some (.pointer (some ⟨D, 0, none⟩))) (hP : w.cell? ⟨Bp, 0, none⟩ = some (.int .i64 (p : Int))) :
    FnP Tryz.prog (.func (.func 90) #[] #[.pointer (some ⟨Bd, 0, none⟩), .pointer (some ⟨Bp, 0, none⟩)]) w IntR (fun q => 0 ≤ q ∧ q < 8) (fun q => decide (g p q.toNat ≤ 1)) := by
  refine ⟨_, _, _, rfl, enters_of Tryz.func90 (by kernel_rfl) rfl, fun x v W hs hW hR => ?_⟩
  obtain rfl : v = .int .i64 x := hR
  obtain ⟨q, rfl⟩ : ∃ q : Nat, x = q := ⟨x.toNat, by omega⟩
  have hq : q < 8 := by omega
  have hBW := hW.cell hB
  have hPW := hW.cell hP
  have hdW := hW.cell (hd.at_ hp hq)
  have hq' : (q : Int) < 8 := by omega
  have hp' : (p : Int) < 8 := by omega
  obtain ⟨G, hG⟩ : ∃ G, g p q = G := ⟨_, rfl⟩
  rw [hG] at hdW
  simp only [Int.toNat_natCast, hG]
  clear hG
  show Calls _ _ #[_, _, _] _ _
  go_enter Tryz.func90, Tryz.ntmps90
  go_wp2
  go_quiet (fail)
  go_wp2
  go_ret
  exact ⟨rfl, Ext.drewN (Ext.refl _) _⟩
set_option maxRecDepth 100000 in
set_option maxHeartbeats 1000000 in
theorem beside_any (Bd D : Nat) (s : Ads) (f : Fg) (g : Mat) (A : Option Addr) (k : Nat) (l : List Nat) (p : Nat) (w : World) (hd : Dk w D s f g) (hp : p < 8) (h8 : ∀ q ∈ l, q < 8) (hex : ∃ q ∈ l, g p q ≤ 1) (hI : Ints w A (natI l)) (hll : l.length ≤ 8) (hB : w.cell? ⟨Bd, 0, none⟩ = some (.pointer (some ⟨D, 0, none⟩))) :
    Calls Tryz.prog 88 #[.slice A (natI l).length k, .int .i64 (p : Int), .pointer (some ⟨Bd, 0, none⟩)] w fun e w' => ∃ q : Nat, e = .returned (.int .i64 (q : Int)) ∧ q ∈ l ∧ g p q ≤ 1 ∧ Ext w w' := by
  obtain ⟨ix, x, hix, hxl, hgx⟩ := idxF_found (fun q : Int => decide (g p q.toNat ≤ 1)) (natI l) 0 (by
    obtain ⟨q, hq, hg⟩ := hex
    exact ⟨(q : Int), List.mem_map.2 ⟨q, hq, rfl⟩, by simpa using hg⟩)
  obtain ⟨q, hq, rfl⟩ := List.mem_map.1 (List.mem_of_getElem? hxl)
  have hg1 : g p q ≤ 1 := by simpa using hgx
  have hil : ix < (natI l).length := (List.getElem?_eq_some_iff.1 hxl).1
  have hix' : (ix : Int) < ((natI l).length : Int) := by omega
  obtain ⟨b, off, hA, hc⟩ : ∃ b off, A = some ⟨b, off, none⟩ ∧ ∀ j y, (natI l)[j]? = some y → w.cell? ⟨b, off + j, none⟩ = some (.int .i64 y) := by
    rcases hI with h | ⟨b, off, h, hc⟩
    · rw [List.map_eq_nil_iff] at h; rw [h] at hil; simp at hil
    · exact ⟨b, off, h, fun j y hj => hc j _ (by rw [List.getElem?_map, hj]; rfl)⟩
  subst hA
  obtain ⟨W1, hW1⟩ : ∃ W1, w.alloc (.cells #[.int .i64 (p : Int)] 3) = W1 := ⟨_, rfl⟩
  have hx1 : Ext w W1 := by rw [← hW1]; exact Ext.alloc (Ext.refl _) _
  have hP : W1.cell? ⟨w.heap.size, 0, none⟩ = some (.int .i64 (p : Int)) := by rw [← hW1]; simp [go_sem]
  have K := indexFunc_int (some ⟨b, off, none⟩) k (natI l) _ (fun q => 0 ≤ q ∧ q < 8) (fun q => decide (g p q.toNat ≤ 1)) W1 (hI.ext hx1) ?hlen (fun y hy => by obtain ⟨z, hz, rfl⟩ := List.mem_map.1 hy; have := h8 z hz; constructor <;> omega) (walk11_fn W1 Bd w.heap.size D s f g p (hd.ext hx1) hp (hx1.cell hB) hP)
  case hlen => rw [natI_len]; omega
  rw [hix] at K
  have HK := hid K
  have HC := hid (hc ix _ hxl)
  have HG := hid hg1
  have HQ := hid hq
  clear K hix hxl hgx hc hI hex hg1 hll
  show Calls _ _ #[_, _, _] _ _
  go_enter Tryz.func88, Tryz.ntmps88
  go_wp2_with fail
  try rw [hW1]
  clear hW1
  refine HK.out.mono ?_
  clear HK
  rintro e w2 ⟨rfl, hb2⟩
  have hc2 := (hx1.trans hb2).cell HC.out
  rw [Nat.zero_add]
  go_wp2
  go_ret
  exact ⟨q, rfl, HQ.out, HG.out, hx1.trans hb2⟩

/-- What fog.Walk answers. -/
def walkE (f : Fg) (k m p : Int) : Int := if cartE f k ≠ 0 then cartE f k else if miOK f m then (if plOK f p then (if lostF (farM f) f (ctAt f k) = false ∧ memI p (natI (canN (farM f) f (ctAt f k) m.toNat)) = true then 0 else 6) else 1) else 3
def WalkxPost (w : World) (f : Fg) (k m p : Int) (e : Ending) (w' : World) : Prop := ∃ r, e = .returned (.tuple #[r, .int .i64 (walkE f k m p)]) ∧ Ext w w' ∧ (walkE f k m p = 0 → ∃ (l : List Int) (g q : Nat), r = .slice (some ⟨g, 0, none⟩) l.length q ∧ w'.ownsRow w.heap.size 3 1 (.slice (some ⟨g, 0, none⟩) l.length q) l.length (l.map (Value.int .i64)) ∧ fitsM (farM f) f (ctAt f k) l = true ∧ l.getD m.toNat 0 = p) ∧ (walkE f k m p ≠ 0 → r = .slice none 0 0)
/-- Places are laid from a minute to a minute, each beside the one before. -/
def WalkOn (f : Fg) (c : Ct) (L : List Int) (a b : Nat) : Prop := (∀ i, a ≤ i → i ≤ b → ∃ q : Nat, L[i]? = some (q : Int) ∧ q ∈ canN (farM f) f c i) ∧ ∀ i, a ≤ i → i < b → farM f (wlAt L i) (wlAt L (i + 1)) ≤ 1
theorem wlAt_of {L : List Int} {i q : Nat} (h : L[i]? = some (q : Int)) : wlAt L i = q := by unfold wlAt; rw [List.getD_eq_getElem?_getD, h]; rfl
theorem WalkOn.back {f : Fg} {c : Ct} {L : List Int} {a b q : Nat} (h : WalkOn f c L (a + 1) b) (hab : a + 1 ≤ b) (hL : b < L.length) (hq : q ∈ canN (farM f) f c a) (hg : farM f q (wlAt L (a + 1)) ≤ 1) : WalkOn f c (L.set a (q : Int)) a b := by
  have hs : ∀ i, a < i → (L.set a (q : Int))[i]? = L[i]? := fun i hi => List.getElem?_set_ne (by omega)
  have ha : (L.set a (q : Int))[a]? = some (q : Int) := List.getElem?_set_self (by omega)
  have hw : ∀ i, a < i → wlAt (L.set a (q : Int)) i = wlAt L i := fun i hi => by unfold wlAt; rw [List.getD_eq_getElem?_getD, List.getD_eq_getElem?_getD, hs i hi]
  refine ⟨fun i h1 h2 => ?_, fun i h1 h2 => ?_⟩
  · by_cases e : i = a
    · subst e; exact ⟨q, ha, hq⟩
    · rw [hs i (by omega)]; exact h.1 i (by omega) h2
  · by_cases e : i = a
    · subst e
      rw [wlAt_of ha, hw _ (by omega)]; exact hg
    · rw [hw i (by omega), hw (i + 1) (by omega)]; exact h.2 i (by omega) h2
theorem WalkOn.on {f : Fg} {c : Ct} {L : List Int} {b q : Nat} (h : WalkOn f c L 0 b) (hL : b + 1 < L.length) (hq : q ∈ canN (farM f) f c (b + 1)) (hg : farM f (wlAt L b) q ≤ 1) : WalkOn f c (L.set (b + 1) (q : Int)) 0 (b + 1) := by
  have hs : ∀ i, i < b + 1 → (L.set (b + 1) (q : Int))[i]? = L[i]? := fun i hi => List.getElem?_set_ne (by omega)
  have ha : (L.set (b + 1) (q : Int))[b + 1]? = some (q : Int) := List.getElem?_set_self (by omega)
  have hw : ∀ i, i < b + 1 → wlAt (L.set (b + 1) (q : Int)) i = wlAt L i := fun i hi => by unfold wlAt; rw [List.getD_eq_getElem?_getD, List.getD_eq_getElem?_getD, hs i hi]
  refine ⟨fun i h1 h2 => ?_, fun i h1 h2 => ?_⟩
  · by_cases e : i = b + 1
    · subst e; exact ⟨q, ha, hq⟩
    · rw [hs i (by omega)]; exact h.1 i h1 (by omega)
  · by_cases e : i = b
    · subst e
      rw [wlAt_of ha, hw _ (by omega)]; exact hg
    · rw [hw i (by omega), hw (i + 1) (by omega)]; exact h.2 i h1 (by omega)
theorem WalkOn.walk {f : Fg} {c : Ct} {L : List Int} (h : WalkOn f c L 0 f.mi.toNat) (hL : L.length = f.mi.toNat + 1) : CanWalk f c L where
  len := hL
  on m hm := by
    obtain ⟨q, hq, hc⟩ := h.1 m (Nat.zero_le _) hm
    rw [wlAt_of hq]
    exact ⟨hc, by rw [List.getD_eq_getElem?_getD, hq]; rfl⟩
  step m hm := h.2 m (Nat.zero_le _) hm
theorem infoI9 : (Tryz.prog.info? 3).map (fun i => (i.zero, i.size, i.bytes)) = some (some (.int .i64 0), 1, 8) := by kernel_rfl
theorem zero_cells (n : Nat) : (madeCells #[Value.int .i64 0] n).toList = (List.replicate n (0 : Int)).map (Value.int .i64) := by
  rw [toList_madeCells_one, List.map_replicate]
set_option maxRecDepth 100000 in
set_option maxHeartbeats 8000000 in
theorem walkx_any (v : Value) (f : Fg) (k m p : Int) (w : World) (hf : FgR w v f) (hs : f.sized) :
    Calls Tryz.prog 22 #[v, .int .i64 k, .int .i64 m, .int .i64 p] w (WalkxPost w f k m p) := by
  have hnil := @Lib.run_eql_slice_nil Tryz.prog
  obtain ⟨s, rfl, hr⟩ := hf.rows
  obtain ⟨T, hT⟩ : ∃ T, cartE f k = T := ⟨_, rfl⟩
  have HT := hid hT
  clear hT
  have HS := hid hs
  have HX0 : Hid (Ext w (w.alloc (.cells #[.int .i64 f.pl, .int .i64 f.mi, .slice s.a1 f.tr.length s.c1, .slice s.a2 f.bl.length s.c2, .slice s.a3 f.ct.length s.c3] 29))) := Ext.alloc (Ext.refl w) _
  show Calls _ _ #[.agg #[.int .i64 f.pl, .int .i64 f.mi, .slice s.a1 f.tr.length s.c1, .slice s.a2 f.bl.length s.c2, .slice s.a3 f.ct.length s.c3], .int .i64 k, .int .i64 m, .int .i64 p] _ _
  go_enter Tryz.func22, Tryz.ntmps22
  go_wp2_with fail
  refine (carted_any (.agg #[.int .i64 f.pl, .int .i64 f.mi, .slice s.a1 f.tr.length s.c1, .slice s.a2 f.bl.length s.c2, .slice s.a3 f.ct.length s.c3]) f k _ (FRows.fg (hr.ext HX0.out)) HS.out).mono ?_
  rintro e w1 ⟨r, rfl, hb1, hr1, hr2⟩
  have hx1 := HX0.out.trans hb1
  have kc0 := hb1.cell (p := ⟨w.heap.size, 0, none⟩) (u := .int .i64 f.pl) (by simp [go_sem])
  have kc1 := hb1.cell (p := ⟨w.heap.size, 1, none⟩) (u := .int .i64 f.mi) (by simp [go_sem])
  have kc2 := hb1.cell (p := ⟨w.heap.size, 2, none⟩) (u := .slice s.a1 f.tr.length s.c1) (by simp [go_sem])
  have kc3 := hb1.cell (p := ⟨w.heap.size, 3, none⟩) (u := .slice s.a2 f.bl.length s.c2) (by simp [go_sem])
  have kc4 := hb1.cell (p := ⟨w.heap.size, 4, none⟩) (u := .slice s.a3 f.ct.length s.c3) (by simp [go_sem])
  clear HX0 hb1
  rw [HT.out]
  by_cases h0 : T = 0
  case neg =>
    have HE0 : Hid (cartE f k ≠ 0) := by unfold Hid; rw [HT.out]; exact h0
    have hr3 := hr2 HE0.out
    subst hr3
    clear hr1 hr2
    have HN : Hid (walkE f k m p = T) := by unfold Hid walkE; rw [if_pos HE0.out, HT.out]
    have HN2 : Hid (walkE f k m p ≠ 0) := by unfold Hid; rw [HN.out]; exact h0
    have hneT := neqE h0
    have hxa : Ext w1 (w1.alloc (.cells #[.pointer none] 101)) := Ext.alloc (Ext.refl _) _
    go_wp2
    go_ret2
    exact ⟨.slice none 0 0, by rw [HN.out]; rfl, hx1.trans hxa, fun h => absurd h HN2.out, fun _ => rfl⟩
  subst h0
  obtain ⟨D, s2, hrD, hdk, hrk⟩ := hr1 HT.out
  subst hrD
  clear hr1 hr2
  obtain ⟨hce, hk0, hk1⟩ := cartE_ok HT.out
  have HOK : Hid (FogOK f) := checkF_ok hce
  obtain ⟨kn, rfl⟩ : ∃ kn : Nat, k = kn := ⟨k.toNat, by omega⟩
  have hkl : kn < f.ct.length := by omega
  have hkl' : (kn : Int) < (f.ct.length : Int) := by omega
  obtain ⟨c, hcg⟩ := get_of_lt f.ct kn hkl
  have HCM : Hid (c ∈ f.ct) := mem_of_get hcg
  have HCA : Hid (ctAt f (kn : Int) = c) := by unfold Hid ctAt; rw [Int.toNat_natCast, List.getD_eq_getElem?_getD, hcg]; rfl
  obtain ⟨cb, co, A1, c1, A2, c2, hA3, cc0, cc1, hCS, hCR, hck1, hck2⟩ := (hr.ct.ext hx1).at_ hcg
  have HA3 := hid hA3
  have HDK := hid hdk
  rw [hA3] at kc4
  rw [HA3.out]
  have hcR : CtR w1 (.agg #[.slice A1 c.st.length c1, .slice A2 c.rp.length c2]) c := ⟨A1, c1, A2, c2, rfl, hCS, hCR, hck1, hck2⟩
  clear hk0 hk1 hce hcg hA3 hkl
  have HCE : Hid (cartE f (kn : Int) = 0) := HT
  obtain ⟨W2, hW2⟩ : ∃ W2, w1.alloc (.cells #[.pointer (some ⟨D, 0, none⟩)] 101) = W2 := ⟨_, rfl⟩
  have hx12 : Ext w1 W2 := by rw [← hW2]; exact Ext.alloc (Ext.refl _) _
  have hFG : Hid (∀ w', Ext W2 w' → FgR w' (.agg #[.int .i64 f.pl, .int .i64 f.mi, .slice s.a1 f.tr.length s.c1, .slice s.a2 f.bl.length s.c2, .slice (some ⟨cb, co, none⟩) f.ct.length s.c3]) f) := fun w' h => by have := FRows.fg (hr.ext ((hx1.trans hx12).trans h)); unfold Ads.val fval at this; rw [HA3.out] at this; exact this
  have FX0 : Hid (∀ w', Ext W2 w' → w'.cell? ⟨w.heap.size, 0, none⟩ = some (.int .i64 f.pl) ∧ w'.cell? ⟨w.heap.size, 1, none⟩ = some (.int .i64 f.mi) ∧ w'.cell? ⟨w.heap.size, 2, none⟩ = some (.slice s.a1 f.tr.length s.c1) ∧ w'.cell? ⟨w.heap.size, 3, none⟩ = some (.slice s.a2 f.bl.length s.c2) ∧ w'.cell? ⟨w.heap.size, 4, none⟩ = some (.slice (some ⟨cb, co, none⟩) f.ct.length s.c3)) := fun w' h => ⟨h.cell (hx12.cell kc0), h.cell (hx12.cell kc1), h.cell (hx12.cell kc2), h.cell (hx12.cell kc3), h.cell (hx12.cell kc4)⟩
  have FX0b : Hid (∀ w', Ext W2 w' → w'.cell? ⟨w1.heap.size, 0, none⟩ = some (.pointer (some ⟨D, 0, none⟩)) ∧ w'.cell? ⟨cb, co + kn * 2, none⟩ = some (.slice A1 c.st.length c1) ∧ w'.cell? ⟨cb, co + kn * 2 + 1, none⟩ = some (.slice A2 c.rp.length c2)) := fun w' h => ⟨h.cell (by rw [← hW2]; simp [go_sem]), h.cell (hx12.cell cc0), h.cell (hx12.cell cc1)⟩
  have HcR0 := hid (hcR.ext hx12)
  have hpl := HOK.out.pl
  have hmi := HOK.out.mi
  clear kc0 kc1 kc2 kc3 kc4 cc0 cc1 hcR
  go_upto_region 4 with fail
  try rw [hW2]
  clear hW2
  obtain ⟨e0, e1, e2, e3, e4⟩ := FX0.out W2 (Ext.refl _)
  go_wp2_with fail
  clear e0 e1 e2 e3 e4
  refine (minute_any (.agg #[.int .i64 f.pl, .int .i64 f.mi, .slice s.a1 f.tr.length s.c1, .slice s.a2 f.bl.length s.c2, .slice (some ⟨cb, co, none⟩) f.ct.length s.c3]) f m W2 (hFG.out W2 (Ext.refl _))).mono ?_
  rintro e w2 ⟨rfl, hb2⟩
  have hx2 := hx1.trans (hx12.trans hb2)
  cases hq : miOK f m
  · have HN : Hid (walkE f kn m p = 3) := by unfold Hid walkE; rw [if_neg (fun h => h HCE.out), hq]; rfl
    have HN2 : Hid (walkE f kn m p ≠ 0) := by unfold Hid; rw [HN.out]; decide
    go_wp2
    go_ret2
    exact ⟨.slice none 0 0, by rw [HN.out]; rfl, hx2, fun h => absurd h HN2.out, fun _ => rfl⟩
  have hmm := inB_iff.1 hq
  have HQ1 := hid hq
  obtain ⟨mn, rfl⟩ : ∃ mn : Nat, m = mn := ⟨m.toNat, by omega⟩
  clear hq
  obtain ⟨e0, e1, e2, e3, e4⟩ := FX0.out w2 hb2
  go_wp2_with fail
  clear e0 e1 e2 e3 e4
  refine (place_any (.agg #[.int .i64 f.pl, .int .i64 f.mi, .slice s.a1 f.tr.length s.c1, .slice s.a2 f.bl.length s.c2, .slice (some ⟨cb, co, none⟩) f.ct.length s.c3]) f p w2 (hFG.out w2 hb2) hpl.1 hpl.2).mono ?_
  rintro e w3 ⟨rfl, hb3⟩
  have hx3 := hx2.trans hb3
  have hx13 := hx12.trans (hb2.trans hb3)
  cases hq : plOK f p
  · have HN : Hid (walkE f kn mn p = 1) := by unfold Hid walkE; rw [if_neg (fun h => h HCE.out), HQ1.out, hq]; rfl
    have HN2 : Hid (walkE f kn mn p ≠ 0) := by unfold Hid; rw [HN.out]; decide
    go_wp2
    go_ret2
    exact ⟨.slice none 0 0, by rw [HN.out]; rfl, hx3, fun h => absurd h HN2.out, fun _ => rfl⟩
  have hpp := plOK_iff2.1 hq
  have HQ2 := hid hq
  obtain ⟨pq, rfl⟩ : ∃ pq : Nat, p = pq := ⟨p.toNat, by omega⟩
  clear hq
  have HcR := hid (HcR0.out.ext (hb2.trans hb3))
  have FX : Hid (∀ w', Ext w3 w' → w'.cell? ⟨w1.heap.size, 0, none⟩ = some (.pointer (some ⟨D, 0, none⟩)) ∧ w'.cell? ⟨w.heap.size, 4, none⟩ = some (.slice (some ⟨cb, co, none⟩) f.ct.length s.c3) ∧ w'.cell? ⟨cb, co + kn * 2, none⟩ = some (.slice A1 c.st.length c1) ∧ w'.cell? ⟨cb, co + kn * 2 + 1, none⟩ = some (.slice A2 c.rp.length c2)) := fun w' h => ⟨(FX0b.out w' ((hb2.trans hb3).trans h)).1, (FX0.out w' ((hb2.trans hb3).trans h)).2.2.2.2, (FX0b.out w' ((hb2.trans hb3).trans h)).2⟩
  have FM : Hid (∀ w', Ext w3 w' → w'.cell? ⟨w.heap.size, 1, none⟩ = some (.int .i64 f.mi)) := fun w' h => (FX0.out w' ((hb2.trans hb3).trans h)).2.1
  have FX2 : Hid (∀ w', Ext w3 w' → w'.cell? ⟨w1.heap.size, 0, none⟩ = some (.pointer (some ⟨D, 0, none⟩))) := fun w' h => (FX.out w' h).1
  clear hb2 hb3 hx2 HcR0 FX0 FX0b
  go_wp2
  refine wp_region_shut Ext (fun w' => Ext w3 w') (fun
    | 6 => some (fun v wz => (lostF (farM f) f c = true → v = .slice none 0 0) ∧ (lostF (farM f) f c = false → ∃ A k, v = .slice (some A) (f.mi.toNat + 1) k ∧ IntRows wz (some A) (canL (farM f) f c) ∧ f.mi.toNat + 1 ≤ k))
    | _ => none) (by kernel_rfl) (by kernel_rfl) (fun _ _ h k => h.trans k) ?hTe (Ext.drew (Ext.refl w3)) ?_
  case hTe =>
    intro i R hR
    match i, hR with
    | 6, hR => cases hR; exact fun _ _ _ ⟨h1, h2⟩ k => ⟨h1, fun h => by obtain ⟨A, k', e1, e2, e3⟩ := h2 h; exact ⟨A, k', e1, e2.ext k, e3⟩⟩
  refine wM_val ?ue0 rfl rfl Ext.refl (fun w' hD => ?he0) (fun phe0 => ?ne0)
  case he0 =>
    obtain ⟨d0, d1, d2, d3⟩ := FX.out w' hD.1
    go_simp; rfl
  simp only [Act.put, List.setIfInBounds_toArray, List.set_cons_succ, List.set_cons_zero, Nat.reduceAdd]
  refine wM_val ?ue1 rfl rfl Ext.refl (fun w' hD => ?he1) (fun phe1 => ?ne1)
  case he1 =>
    obtain ⟨d0, d1, d2, d3⟩ := FX.out w' hD.1
    go_simp; rfl
  simp only [Act.put, List.setIfInBounds_toArray, List.set_cons_succ, List.set_cons_zero, Nat.reduceAdd]
  refine wM_val ?ue2 rfl rfl Ext.refl (fun w' hD => ?he2) (fun phe2 => ?ne2)
  case he2 =>
    obtain ⟨d0, d1, d2, d3⟩ := FX.out w' hD.1
    go_simp; rfl
  simp only [Act.put, List.setIfInBounds_toArray, List.set_cons_succ, List.set_cons_zero, Nat.reduceAdd]
  refine wM_val ?ue3 rfl rfl Ext.refl (fun w' hD => ?he3) (fun phe3 => ?ne3)
  case he3 =>
    obtain ⟨d0, d1, d2, d3⟩ := FX.out w' hD.1
    go_simp; rfl
  simp only [Act.put, List.setIfInBounds_toArray, List.set_cons_succ, List.set_cons_zero, Nat.reduceAdd]
  refine wM_val ?ue4 rfl rfl Ext.refl (fun w' hD => ?he4) (fun phe4 => ?ne4)
  case he4 =>
    obtain ⟨d0, d1, d2, d3⟩ := FX.out w' hD.1
    go_simp; rfl
  simp only [Act.put, List.setIfInBounds_toArray, List.set_cons_succ, List.set_cons_zero, Nat.reduceAdd]
  refine wM_val ?ue5 rfl rfl Ext.refl (fun w' hD => ?he5) (fun phe5 => ?ne5)
  case he5 =>
    obtain ⟨d0, d1, d2, d3⟩ := FX.out w' hD.1
    go_simp; rfl
  simp only [Act.put, List.setIfInBounds_toArray, List.set_cons_succ, List.set_cons_zero, Nat.reduceAdd]
  refine wM_op _ rfl rfl (opens_call ?fe6 ?ge6 (fun w' hD => ?he6) (fun w' hD => ?ce6)) (fun v6 hv6 => ?ne6)
  case he6 => go_simp; constructor <;> rfl
  case ce6 =>
    refine (can_any D s2 f (farM f) c (.agg #[.slice A1 c.st.length c1, .slice A2 c.rp.length c2]) w' (HDK.out.ext (hx13.trans hD.1)) (hrk.ext (hx13.trans hD.1)) HOK.out HCM.out (HcR.out.ext hD.1)).mono ?_
    rintro e w9 ⟨vv, rfl, hb, hl1, hl2⟩
    exact ⟨_, rfl, hb, hl1, hl2⟩
  obtain ⟨_, -, -, -⟩ := hv6
  simp only [Act.put, List.setIfInBounds_toArray, List.set_cons_succ, List.set_cons_zero, Nat.reduceAdd]
  refine wM_val ?ue7 rfl rfl Ext.refl (fun w' hD => ?he7) (fun phe7 => ?ne7)
  case he7 =>
    obtain ⟨d0, d1, d2, d3⟩ := FX.out w' hD.1
    go_simp; rfl
  simp only [Act.put, List.setIfInBounds_toArray, List.set_cons_succ, List.set_cons_zero, Nat.reduceAdd]
  refine wM_nil ?_
  intro w9 hw9 hF9
  obtain ⟨-, r1, r2⟩ := hF9 6
  clear hF9
  have hx9 := hx3.trans hw9
  cases hl : lostF (farM f) f c
  case true =>
    have e1 := r1 hl
    subst e1
    have HN : Hid (walkE f kn mn pq = 6) := by unfold Hid walkE; rw [if_neg (fun h => h HCE.out), HQ1.out, HQ2.out, HCA.out, hl]; rfl
    have HN2 : Hid (walkE f kn mn pq ≠ 0) := by unfold Hid; rw [HN.out]; decide
    clear r1 r2 hl
    go_wp2
    go_ret2
    exact ⟨.slice none 0 0, by rw [HN.out]; rfl, hx9, fun h => absurd h HN2.out, fun _ => rfl⟩
  obtain ⟨Ac, kc, e1, hIc, hkc⟩ := r2 hl
  subst e1
  obtain ⟨Mi, hMi⟩ : ∃ Mi : Nat, f.mi.toNat = Mi := ⟨_, rfl⟩
  have HMI := hid hMi
  rw [hMi] at hkc ⊢
  have HL := hid hl
  have hmn : mn ≤ Mi := by omega
  have hMi8 : Mi ≤ 8 := by omega
  clear r1 r2 hMi hl
  obtain ⟨rb, ro, A7, k7, eA9, q0, hI7, hk7⟩ := hIc.at_ (canL_get (show mn ≤ f.mi.toNat by rw [HMI.out]; exact hmn))
  cases eA9
  have hmn' : (mn : Int) < (Mi : Int) + 1 := by omega
  have K := containsI_any (pq : Int) A7 k7 (natI (canN (farM f) f c mn)) w9 hI7 (by have := (canN_lt (g := farM f) (c := c) hpl.2 mn).2; omega)
  obtain ⟨B7, hB7⟩ : ∃ B7, memI (pq : Int) (natI (canN (farM f) f c mn)) = B7 := ⟨_, rfl⟩
  rw [hB7] at K
  have HB7 := hid hB7
  have HK := hid K
  have HIC := hid hIc
  clear K hB7 hI7 hk7 hIc
  go_wp2_with fail
  clear q0
  refine HK.out.mono ?_
  clear HK
  rintro e w4 ⟨rfl, hh⟩
  subst hh
  cases B7
  case false =>
    have HN : Hid (walkE f kn mn pq = 6) := by unfold Hid walkE; rw [if_neg (fun h => h HCE.out), HQ1.out, HQ2.out, HCA.out, Int.toNat_natCast, HB7.out]; simp
    have HN2 : Hid (walkE f kn mn pq ≠ 0) := by unfold Hid; rw [HN.out]; decide
    go_wp2
    go_ret2
    exact ⟨.slice none 0 0, by rw [HN.out]; rfl, hx9, fun h => absurd h HN2.out, fun _ => rfl⟩
  have HN : Hid (walkE f kn mn pq = 0) := by unfold Hid walkE; rw [if_neg (fun h => h HCE.out), HQ1.out, HQ2.out, HCA.out, Int.toNat_natCast, HL.out, HB7.out]; rfl
  have X4 : Hid (Ext w3 w9) := hw9
  have hwr : IntKind.i64.wrap (f.mi + 1) = f.mi + 1 := IntWalk.i64_in _ ⟨by omega, by omega⟩
  have hwr2 : IntKind.i64.wrap ((mn : Int) - 1) = (mn : Int) - 1 := IntWalk.i64_in _ ⟨by omega, by omega⟩
  have hwr3 : IntKind.i64.wrap ((mn : Int) + 1) = (mn : Int) + 1 := IntWalk.i64_in _ ⟨by omega, by omega⟩
  obtain ⟨ti, hti, htz, htsize, htby⟩ := info_parts infoI9
  have H4 := hid hti
  have H5 := hid htz
  have H6 := hid htsize
  have hm1 : Hid (Mi + 1 ≤ maxLen) := by unfold Hid; simp only [maxLen]; omega
  have hb1 : Hid (ti.bytes * (Mi + 1) ≤ 281474976710656) := by unfold Hid; rw [htby]; omega
  have HME : Hid (f.mi + 1 = ((Mi + 1 : Nat) : Int)) := by have h := HMI.out; unfold Hid; omega
  have HMJ : Hid (f.mi = (Mi : Int)) := by have h := HMI.out; unfold Hid; omega
  have HC8 : Hid (∀ i, i ≤ f.mi.toNat → ∀ q ∈ canN (farM f) f c i, q < 8) := fun i hi q hq => by have := can_lt hi hq; omega
  have HC9 : Hid (∀ i, (canN (farM f) f c i).length ≤ 8) := fun i => by have := (canN_lt (g := farM f) (c := c) hpl.2 i).2; rwa [natI_len] at this
  have HPC : Hid (pq ∈ canN (farM f) f c mn) := by
    have h := mem_memI.1 HB7.out
    obtain ⟨z, hz, e⟩ := List.mem_map.1 h
    have : z = pq := by omega
    subst this; exact hz
  have fm := FM.out w9 hw9
  clear hti htz htsize htby
  go_wp2_with (at_make; refine wpList_make_full _ rfl _ _ 37 rfl w9.heap.size 3 ti (.int .i64 0) 1 Tryz.underlying37 H4.out H5.out H6.out .i64 .i64 (f.mi + 1) (f.mi + 1) (Mi + 1) rfl rfl HME.out HME.out hb1.out hm1.out (Nat.le_refl _) ?_)
  intro w5 hown5 hgr5
  rw [zero_cells] at hown5
  have hx5 : Ext w9 w5 := Ext.grown (Ext.refl _) hgr5 (fun j e => by cases e)
  obtain ⟨gO, hgO⟩ : ∃ gO, w9.heap.size = gO := ⟨_, rfl⟩
  have HGO := hid hgO
  rw [hgO] at hown5 ⊢
  clear fm hgr5 hgO
  have o0 : mn < (Mi + 1) * 1 := by omega
  have oc := hown5.cellAt mn o0
  rw [List.getElem?_map, List.getElem?_replicate, if_pos (by omega)] at oc
  simp only [Option.map_some] at oc
  have of := hown5.frozenAt mn
  have hmn2 : (mn : Int) < ((Mi + 1 : Nat) : Int) := by omega
  go_upto_region 14 with fail
  obtain ⟨w6, hw6⟩ : ∃ w6, w5.setCell ⟨gO, mn, none⟩ (.int .i64 (pq : Int)) = w6 := ⟨_, rfl⟩
  try rw [hw6]
  have HO6 : Hid (w6.ownsRow gO 3 1 (.slice (some ⟨gO, 0, none⟩) (Mi + 1) (Mi + 1)) (Mi + 1) (((List.replicate (Mi + 1) (0 : Int)).set mn (pq : Int)).map (Value.int .i64))) := by
    unfold Hid
    rw [← hw6, List.map_set]
    exact (hown5.stored mn (.int .i64 (pq : Int))).1
  have X6 : Ext w9 w6 := by rw [← hw6]; exact hx5.setCell (by have := HGO.out; show w9.heap.size ≤ gO; omega) _
  have HP6 : Hid (((List.replicate (Mi + 1) (0 : Int)).set mn (pq : Int))[mn]? = some (pq : Int)) := List.getElem?_set_self (by simp; omega)
  have HW6 : Hid (WalkOn f c ((List.replicate (Mi + 1) (0 : Int)).set mn (pq : Int)) mn mn) := ⟨fun i h1 h2 => ⟨pq, by rw [show i = mn by omega]; exact HP6.out, by rw [show i = mn by omega]; exact HPC.out⟩, fun i h1 h2 => by omega⟩
  have HL6 : Hid (((List.replicate (Mi + 1) (0 : Int)).set mn (pq : Int)).length = Mi + 1) := by unfold Hid; simp
  clear hw6 oc of o0 hown5 hx5
  go_wp2_with fail
  go_loopw [15] (fun i15 wr => ∃ (a : Nat) (L : List Int) (x : Int), a ≤ mn ∧ i15 = .int .i64 x ∧ Hid (x = (a : Int) - 1) ∧ Hid (L.length = Mi + 1) ∧ Hid (wr.ownsRow gO 3 1 (.slice (some ⟨gO, 0, none⟩) (Mi + 1) (Mi + 1)) (Mi + 1) (L.map (Value.int .i64))) ∧ Hid (WalkOn f c L a mn) ∧ Hid (L[mn]? = some (pq : Int)) ∧ Ext w9 wr) (fun i _ => (intOf i + 1).toNat)
  case atStart => exact ⟨mn, _, _, Nat.le_refl _, rfl, rfl, HL6, HO6, HW6, HP6, X6⟩
  case round =>
    obtain ⟨a, L, x, ham, rfl, HXA, HLL, HO, HW, HP, hx⟩ := hrel
    rcases a with _ | a
    · have hx1 : ¬ 0 ≤ x := by have := HXA.out; omega
      clear HXA
      go_wp2_with fail
      go_loopw [16] (fun i16 wr => ∃ (b : Nat) (L : List Int) (x : Int), mn ≤ b ∧ b ≤ Mi ∧ i16 = .int .i64 x ∧ Hid (x = (b : Int) + 1) ∧ Hid (L.length = Mi + 1) ∧ Hid (wr.ownsRow gO 3 1 (.slice (some ⟨gO, 0, none⟩) (Mi + 1) (Mi + 1)) (Mi + 1) (L.map (Value.int .i64))) ∧ Hid (WalkOn f c L 0 b) ∧ Hid (L[mn]? = some (pq : Int)) ∧ Ext w9 wr) (fun i _ => Mi + 1 - (intOf i).toNat)
      case atStart => exact ⟨mn, L, _, Nat.le_refl _, hmn, rfl, rfl, HLL, HO, HW, HP, hx⟩
      case round =>
        clear HLL HO HW HP hx hx1
        obtain ⟨b, L, x, hmb, hbM, rfl, HXB, HLL, HO, HW, HP, hx⟩ := hrel
        have fm := FM.out wr (X4.out.trans hx)
        by_cases hlt : b < Mi
        · have hx1 : x ≤ f.mi := by have h1 := HXB.out; have h2 := HMJ.out; omega
          have hx2 : x = ((b + 1 : Nat) : Int) := by have h1 := HXB.out; omega
          clear HXB
          subst hx2
          have hai : b + 1 ≤ f.mi.toNat := by rw [HMI.out]; omega
          obtain ⟨rb', ro', A7, k7, eA7, q0, hI7, hk7⟩ := (HIC.out.ext hx).at_ (canL_get hai)
          have eA8 : rb' = rb ∧ ro' = ro := by injection eA7 with e; injection e with e1 e2; exact ⟨e1.symm, e2.symm⟩
          obtain ⟨rfl, rfl⟩ := eA8
          obtain ⟨pn, hpn1, hpn2⟩ := HW.out.1 (b) (by omega) (by omega)
          have hpw := wlAt_of hpn1
          have hp8 : pn < 8 := HC8.out _ (show (b) ≤ f.mi.toNat by rw [HMI.out]; omega) _ hpn2
          have c1' : wr.cell? ⟨gO, b, none⟩ = some (.int .i64 (pn : Int)) := by
            rw [HO.out.cellAt (b) (by omega), List.getElem?_map, hpn1]; rfl
          have FZ : Hid (∀ w', Ext wr w' → w'.cell? ⟨rb', ro' + (b + 1), none⟩ = some (.slice A7 (natI (canN (farM f) f c (b + 1))).length k7) ∧ w'.cell? ⟨gO, b, none⟩ = some (.int .i64 (pn : Int))) := fun w' h => ⟨h.cell q0, h.cell c1'⟩
          have hex : ∃ q ∈ canN (farM f) f c (b + 1), farM f pn q ≤ 1 := can_on hai hpn2
          have hb1' : ((b : Int) + 1) < (Mi : Int) + 1 := by omega
          have hb2' : (b : Int) < (Mi : Int) + 1 := by omega
          have hb3 : b + 1 < Mi + 1 := by omega
          have hb4 : b < Mi + 1 := by omega
          have hwb : IntKind.i64.wrap ((b : Int) + 1 - 1) = (b : Int) := by rw [show (b : Int) + 1 - 1 = b by omega]; exact IntWalk.i64_in _ ⟨by omega, by omega⟩
          have hwb2 : IntKind.i64.wrap ((b : Int) + 1) = (b : Int) + 1 := IntWalk.i64_in _ ⟨by omega, by omega⟩
          have hwb3 : IntKind.i64.wrap ((b : Int) + 1 + 1) = (b : Int) + 1 + 1 := IntWalk.i64_in _ ⟨by omega, by omega⟩
          have hwb5 : IntKind.i64.wrap (b : Int) = (b : Int) := IntWalk.i64_in _ ⟨by omega, by omega⟩
          clear q0 c1'
          go_wp2
          clear fm
          refine wp_region_shut_tail Ext (fun w' => Ext wr w') (fun
            | 12 => some (fun v _ => ∃ q : Nat, v = .int .i64 (q : Int) ∧ q ∈ canN (farM f) f c (b + 1) ∧ farM f pn q ≤ 1)
            | _ => none) 14 (by kernel_rfl) (by kernel_rfl) (fun _ _ h k => h.trans k) ?hTh (Ext.drew (Ext.refl wr)) ?_
          case hTh =>
            intro i R hR
            match i, hR with
            | 12, hR => cases hR; exact fun _ _ _ h _ => h
          refine wM_val ?uy0 rfl rfl Ext.refl (fun w' hD => ?hy0) (fun phy0 => ?ny0)
          case hy0 =>
            obtain ⟨d0, d1⟩ := FZ.out w' hD.1
            go_simp; rfl
          simp only [Act.put, List.setIfInBounds_toArray, List.set_cons_succ, List.set_cons_zero, Nat.reduceAdd]
          refine wM_val ?uy1 rfl rfl Ext.refl (fun w' hD => ?hy1) (fun phy1 => ?ny1)
          case hy1 =>
            obtain ⟨d0, d1⟩ := FZ.out w' hD.1
            go_simp; rfl
          simp only [Act.put, List.setIfInBounds_toArray, List.set_cons_succ, List.set_cons_zero, Nat.reduceAdd]
          refine wM_val ?uy2 rfl rfl Ext.refl (fun w' hD => ?hy2) (fun phy2 => ?ny2)
          case hy2 =>
            obtain ⟨d0, d1⟩ := FZ.out w' hD.1
            go_simp; rfl
          simp only [Act.put, List.setIfInBounds_toArray, List.set_cons_succ, List.set_cons_zero, Nat.reduceAdd]
          refine wM_val ?uy3 rfl rfl Ext.refl (fun w' hD => ?hy3) (fun phy3 => ?ny3)
          case hy3 =>
            obtain ⟨d0, d1⟩ := FZ.out w' hD.1
            go_simp; rfl
          simp only [Act.put, List.setIfInBounds_toArray, List.set_cons_succ, List.set_cons_zero, Nat.reduceAdd]
          refine wM_val ?uy4 rfl rfl Ext.refl (fun w' hD => ?hy4) (fun phy4 => ?ny4)
          case hy4 =>
            obtain ⟨d0, d1⟩ := FZ.out w' hD.1
            go_simp; rfl
          simp only [Act.put, List.setIfInBounds_toArray, List.set_cons_succ, List.set_cons_zero, Nat.reduceAdd]
          refine wM_val ?uy5 rfl rfl Ext.refl (fun w' hD => ?hy5) (fun phy5 => ?ny5)
          case hy5 =>
            obtain ⟨d0, d1⟩ := FZ.out w' hD.1
            go_simp; rfl
          simp only [Act.put, List.setIfInBounds_toArray, List.set_cons_succ, List.set_cons_zero, Nat.reduceAdd]
          refine wM_val ?uy6 rfl rfl Ext.refl (fun w' hD => ?hy6) (fun phy6 => ?ny6)
          case hy6 =>
            obtain ⟨d0, d1⟩ := FZ.out w' hD.1
            go_simp; rfl
          simp only [Act.put, List.setIfInBounds_toArray, List.set_cons_succ, List.set_cons_zero, Nat.reduceAdd]
          refine wM_val ?uy7 rfl rfl Ext.refl (fun w' hD => ?hy7) (fun phy7 => ?ny7)
          case hy7 =>
            obtain ⟨d0, d1⟩ := FZ.out w' hD.1
            go_simp; rfl
          simp only [Act.put, List.setIfInBounds_toArray, List.set_cons_succ, List.set_cons_zero, Nat.reduceAdd]
          refine wM_val ?uy8 rfl rfl Ext.refl (fun w' hD => ?hy8) (fun phy8 => ?ny8)
          case hy8 =>
            obtain ⟨d0, d1⟩ := FZ.out w' hD.1
            go_simp; rfl
          simp only [Act.put, List.setIfInBounds_toArray, List.set_cons_succ, List.set_cons_zero, Nat.reduceAdd]
          refine wM_val ?uy9 rfl rfl Ext.refl (fun w' hD => ?hy9) (fun phy9 => ?ny9)
          case hy9 =>
            obtain ⟨d0, d1⟩ := FZ.out w' hD.1
            go_simp; rfl
          simp only [Act.put, List.setIfInBounds_toArray, List.set_cons_succ, List.set_cons_zero, Nat.reduceAdd]
          refine wM_val ?uy10 rfl rfl Ext.refl (fun w' hD => ?hy10) (fun phy10 => ?ny10)
          case hy10 =>
            obtain ⟨d0, d1⟩ := FZ.out w' hD.1
            go_simp; rfl
          simp only [Act.put, List.setIfInBounds_toArray, List.set_cons_succ, List.set_cons_zero, Nat.reduceAdd]
          refine wM_val ?uy11 rfl rfl Ext.refl (fun w' hD => ?hy11) (fun phy11 => ?ny11)
          case hy11 =>
            obtain ⟨d0, d1⟩ := FZ.out w' hD.1
            go_simp; rfl
          simp only [Act.put, List.setIfInBounds_toArray, List.set_cons_succ, List.set_cons_zero, Nat.reduceAdd]
          refine wM_op _ rfl rfl (opens_call ?fy12 ?gy12 (fun w' hD => ?hy12) (fun w' hD => ?cy12)) (fun v12 hv12 => ?ny12)
          case hy12 => go_simp; constructor <;> rfl
          case cy12 =>
            refine (beside_any w1.heap.size D s2 f (farM f) A7 k7 (canN (farM f) f c (b + 1)) pn w' (HDK.out.ext ((hx13.trans X4.out).trans (hx.trans hD.1))) hp8 (HC8.out _ hai) hex (hI7.ext hD.1) (HC9.out (b + 1)) (FX2.out w' (X4.out.trans (hx.trans hD.1)))).mono ?_
            rintro e w9 ⟨q, rfl, hq1, hq2, hb⟩
            exact ⟨_, rfl, hb, q, rfl, hq1, hq2⟩
          obtain ⟨_, -, -, qn, rfl, hq1, hq2⟩ := hv12
          simp only [Act.put, List.setIfInBounds_toArray, List.set_cons_succ, List.set_cons_zero, Nat.reduceAdd]
          refine wM_val ?uy13 rfl rfl Ext.refl (fun w' hD => ?hy13) (fun phy13 => ?ny13)
          case hy13 =>
            obtain ⟨d0, d1⟩ := FZ.out w' hD.1
            go_simp; rfl
          simp only [Act.put, List.setIfInBounds_toArray, List.set_cons_succ, List.set_cons_zero, Nat.reduceAdd]
          refine wM_nil ?_
          intro w10 hw10 hF9
          clear hF9 FZ
          simp only [List.drop_succ_cons, List.drop_zero]
          have ox := own_below HO.out hw10
          have o0 : b + 1 < (Mi + 1) * 1 := by omega
          have ocx := ox.cellAt (b + 1) o0
          rw [List.getElem?_map, List.getElem?_eq_getElem (by have := HLL.out; omega)] at ocx
          simp only [Option.map_some] at ocx
          obtain ⟨u0, oc⟩ : ∃ u0, w10.cell? ⟨gO, b + 1, none⟩ = some u0 := ⟨_, ocx⟩
          clear ocx
          have of := ox.frozenAt (b + 1)
          have HO2 : Hid ((w10.setCell ⟨gO, b + 1, none⟩ (.int .i64 (qn : Int))).ownsRow gO 3 1 (.slice (some ⟨gO, 0, none⟩) (Mi + 1) (Mi + 1)) (Mi + 1) ((L.set (b + 1) (qn : Int)).map (Value.int .i64))) := by
            unfold Hid; rw [List.map_set]; exact (ox.stored (b + 1) (.int .i64 (qn : Int))).1
          have hx10 : Ext w9 (w10.setCell ⟨gO, b + 1, none⟩ (.int .i64 (qn : Int))) := (hx.trans hw10).setCell (by have := HGO.out; show w9.heap.size ≤ gO; omega) _
          have HW2 : Hid (WalkOn f c (L.set (b + 1) (qn : Int)) 0 (b + 1)) := HW.out.on (by have := HLL.out; omega) hq1 (by rw [hpw]; exact hq2)
          have HL2 : Hid ((L.set (b + 1) (qn : Int)).length = Mi + 1) := by unfold Hid; rw [List.length_set]; exact HLL.out
          have HP2 : Hid ((L.set (b + 1) (qn : Int))[mn]? = some (pq : Int)) := by unfold Hid; rw [List.getElem?_set_ne (by omega)]; exact HP.out
          clear HO HW HP HLL ox o0 hpw hpn1 hpn2 hex hq1 hq2
          go_wp2
          go_roundw
          case rel => exact ⟨b + 1, _, _, by omega, by omega, rfl, by unfold Hid; push_cast; omega, HL2, HO2, HW2, HP2, hx10⟩
          case measure => simp [intOf]; omega
        · have hbe : b = Mi := by omega
          subst hbe
          have hx1 : ¬ x ≤ f.mi := by have h1 := HXB.out; have h2 := HMJ.out; omega
          clear HXB
          have hfit : fitsM (farM f) f (ctAt f (kn : Int)) L = true := by
            rw [HCA.out]
            have h1 := HW.out
            rw [← HMI.out] at h1
            exact (h1.walk (by rw [HLL.out, HMI.out])).fits HOK.out HCM.out
          have hgd : L.getD mn 0 = (pq : Int) := by rw [List.getD_eq_getElem?_getD, HP.out]; rfl
          have HF := hid hfit
          have HG := hid hgd
          clear hfit hgd
          go_wp2
          go_ret2
          refine ⟨_, by rw [HN.out]; rfl, hx9.trans hx, fun _ => ⟨L, gO, b + 1, by rw [HLL.out]; rfl, ?_, HF.out, ?_⟩, fun h => absurd HN.out h⟩
          · rw [HLL.out]
            exact own_base HO.out (by have := HGO.out; have := hx9.size; omega)
          · rw [Int.toNat_natCast]; exact HG.out
    · have hx2 : x = (a : Int) := by have h1 := HXA.out; omega
      clear HXA
      subst hx2
      have hai : a ≤ f.mi.toNat := by rw [HMI.out]; omega
      obtain ⟨rb', ro', A7, k7, eA7, q0, hI7, hk7⟩ := (HIC.out.ext hx).at_ (canL_get hai)
      have eA8 : rb' = rb ∧ ro' = ro := by injection eA7 with e; injection e with e1 e2; exact ⟨e1.symm, e2.symm⟩
      obtain ⟨rfl, rfl⟩ := eA8
      obtain ⟨pn, hpn1, hpn2⟩ := HW.out.1 (a + 1) (by omega) (by omega)
      have hpw := wlAt_of hpn1
      have hp8 : pn < 8 := HC8.out _ (show (a + 1) ≤ f.mi.toNat by rw [HMI.out]; omega) _ hpn2
      have c1' : wr.cell? ⟨gO, a + 1, none⟩ = some (.int .i64 (pn : Int)) := by
        rw [HO.out.cellAt (a + 1) (by omega), List.getElem?_map, hpn1]; rfl
      have FZ : Hid (∀ w', Ext wr w' → w'.cell? ⟨rb', ro' + a, none⟩ = some (.slice A7 (natI (canN (farM f) f c a)).length k7) ∧ w'.cell? ⟨gO, a + 1, none⟩ = some (.int .i64 (pn : Int))) := fun w' h => ⟨h.cell q0, h.cell c1'⟩
      have hex : ∃ q ∈ canN (farM f) f c a, farM f pn q ≤ 1 := by
        obtain ⟨q, hq, hg⟩ := can_back (show a + 1 ≤ f.mi.toNat by rw [HMI.out]; omega) hpn2
        have hq8 := HC8.out a hai q hq
        refine ⟨q, hq, ?_⟩
        rw [(far_ok HOK.out).symm HOK.out hp8 hq8]; exact hg
      have hx1 : 0 ≤ (a : Int) := by omega
      have ha1 : ((a : Int) + 1) < (Mi : Int) + 1 := by omega
      have ha2 : (a : Int) < (Mi : Int) + 1 := by omega
      have ha3 : a + 1 < Mi + 1 := by omega
      have ha4 : a < Mi + 1 := by omega
      have hwa : IntKind.i64.wrap ((a : Int) + 1) = (a : Int) + 1 := IntWalk.i64_in _ ⟨by omega, by omega⟩
      have hwa2 : IntKind.i64.wrap ((a : Int) - 1) = (a : Int) - 1 := IntWalk.i64_in _ ⟨by omega, by omega⟩
      clear q0 c1'
      go_wp2
      refine wp_region_shut_tail Ext (fun w' => Ext wr w') (fun
        | 12 => some (fun v _ => ∃ q : Nat, v = .int .i64 (q : Int) ∧ q ∈ canN (farM f) f c a ∧ farM f pn q ≤ 1)
        | _ => none) 14 (by kernel_rfl) (by kernel_rfl) (fun _ _ h k => h.trans k) ?hTg (Ext.drew (Ext.refl wr)) ?_
      case hTg =>
        intro i R hR
        match i, hR with
        | 12, hR => cases hR; exact fun _ _ _ h _ => h
      refine wM_val ?ux0 rfl rfl Ext.refl (fun w' hD => ?hx0) (fun phx0 => ?nx0)
      case hx0 =>
        obtain ⟨d0, d1⟩ := FZ.out w' hD.1
        go_simp; rfl
      simp only [Act.put, List.setIfInBounds_toArray, List.set_cons_succ, List.set_cons_zero, Nat.reduceAdd]
      refine wM_val ?ux1 rfl rfl Ext.refl (fun w' hD => ?hx1) (fun phx1 => ?nx1)
      case hx1 =>
        obtain ⟨d0, d1⟩ := FZ.out w' hD.1
        go_simp; rfl
      simp only [Act.put, List.setIfInBounds_toArray, List.set_cons_succ, List.set_cons_zero, Nat.reduceAdd]
      refine wM_val ?ux2 rfl rfl Ext.refl (fun w' hD => ?hx2) (fun phx2 => ?nx2)
      case hx2 =>
        obtain ⟨d0, d1⟩ := FZ.out w' hD.1
        go_simp; rfl
      simp only [Act.put, List.setIfInBounds_toArray, List.set_cons_succ, List.set_cons_zero, Nat.reduceAdd]
      refine wM_val ?ux3 rfl rfl Ext.refl (fun w' hD => ?hx3) (fun phx3 => ?nx3)
      case hx3 =>
        obtain ⟨d0, d1⟩ := FZ.out w' hD.1
        go_simp; rfl
      simp only [Act.put, List.setIfInBounds_toArray, List.set_cons_succ, List.set_cons_zero, Nat.reduceAdd]
      refine wM_val ?ux4 rfl rfl Ext.refl (fun w' hD => ?hx4) (fun phx4 => ?nx4)
      case hx4 =>
        obtain ⟨d0, d1⟩ := FZ.out w' hD.1
        go_simp; rfl
      simp only [Act.put, List.setIfInBounds_toArray, List.set_cons_succ, List.set_cons_zero, Nat.reduceAdd]
      refine wM_val ?ux5 rfl rfl Ext.refl (fun w' hD => ?hx5) (fun phx5 => ?nx5)
      case hx5 =>
        obtain ⟨d0, d1⟩ := FZ.out w' hD.1
        go_simp; rfl
      simp only [Act.put, List.setIfInBounds_toArray, List.set_cons_succ, List.set_cons_zero, Nat.reduceAdd]
      refine wM_val ?ux6 rfl rfl Ext.refl (fun w' hD => ?hx6) (fun phx6 => ?nx6)
      case hx6 =>
        obtain ⟨d0, d1⟩ := FZ.out w' hD.1
        go_simp; rfl
      simp only [Act.put, List.setIfInBounds_toArray, List.set_cons_succ, List.set_cons_zero, Nat.reduceAdd]
      refine wM_val ?ux7 rfl rfl Ext.refl (fun w' hD => ?hx7) (fun phx7 => ?nx7)
      case hx7 =>
        obtain ⟨d0, d1⟩ := FZ.out w' hD.1
        go_simp; rfl
      simp only [Act.put, List.setIfInBounds_toArray, List.set_cons_succ, List.set_cons_zero, Nat.reduceAdd]
      refine wM_val ?ux8 rfl rfl Ext.refl (fun w' hD => ?hx8) (fun phx8 => ?nx8)
      case hx8 =>
        obtain ⟨d0, d1⟩ := FZ.out w' hD.1
        go_simp; rfl
      simp only [Act.put, List.setIfInBounds_toArray, List.set_cons_succ, List.set_cons_zero, Nat.reduceAdd]
      refine wM_val ?ux9 rfl rfl Ext.refl (fun w' hD => ?hx9) (fun phx9 => ?nx9)
      case hx9 =>
        obtain ⟨d0, d1⟩ := FZ.out w' hD.1
        go_simp; rfl
      simp only [Act.put, List.setIfInBounds_toArray, List.set_cons_succ, List.set_cons_zero, Nat.reduceAdd]
      refine wM_val ?ux10 rfl rfl Ext.refl (fun w' hD => ?hx10) (fun phx10 => ?nx10)
      case hx10 =>
        obtain ⟨d0, d1⟩ := FZ.out w' hD.1
        go_simp; rfl
      simp only [Act.put, List.setIfInBounds_toArray, List.set_cons_succ, List.set_cons_zero, Nat.reduceAdd]
      refine wM_val ?ux11 rfl rfl Ext.refl (fun w' hD => ?hx11) (fun phx11 => ?nx11)
      case hx11 =>
        obtain ⟨d0, d1⟩ := FZ.out w' hD.1
        go_simp; rfl
      simp only [Act.put, List.setIfInBounds_toArray, List.set_cons_succ, List.set_cons_zero, Nat.reduceAdd]
      refine wM_op _ rfl rfl (opens_call ?fx12 ?gx12 (fun w' hD => ?hx12) (fun w' hD => ?cx12)) (fun v12 hv12 => ?nx12)
      case hx12 => go_simp; constructor <;> rfl
      case cx12 =>
        refine (beside_any w1.heap.size D s2 f (farM f) A7 k7 (canN (farM f) f c a) pn w' (HDK.out.ext ((hx13.trans X4.out).trans (hx.trans hD.1))) hp8 (HC8.out _ hai) hex (hI7.ext hD.1) (HC9.out a) (FX2.out w' (X4.out.trans (hx.trans hD.1)))).mono ?_
        rintro e w9 ⟨q, rfl, hq1, hq2, hb⟩
        exact ⟨_, rfl, hb, q, rfl, hq1, hq2⟩
      obtain ⟨_, -, -, qn, rfl, hq1, hq2⟩ := hv12
      simp only [Act.put, List.setIfInBounds_toArray, List.set_cons_succ, List.set_cons_zero, Nat.reduceAdd]
      refine wM_val ?ux13 rfl rfl Ext.refl (fun w' hD => ?hx13) (fun phx13 => ?nx13)
      case hx13 =>
        obtain ⟨d0, d1⟩ := FZ.out w' hD.1
        go_simp; rfl
      simp only [Act.put, List.setIfInBounds_toArray, List.set_cons_succ, List.set_cons_zero, Nat.reduceAdd]
      refine wM_nil ?_
      intro w10 hw10 hF9
      clear hF9 FZ
      simp only [List.drop_succ_cons, List.drop_zero]
      have ox := own_below HO.out hw10
      have o0 : a < (Mi + 1) * 1 := by omega
      have ocx := ox.cellAt a o0
      rw [List.getElem?_map, List.getElem?_eq_getElem (by have := HLL.out; omega)] at ocx
      simp only [Option.map_some] at ocx
      obtain ⟨u0, oc⟩ : ∃ u0, w10.cell? ⟨gO, a, none⟩ = some u0 := ⟨_, ocx⟩
      clear ocx
      have of := ox.frozenAt a
      have HO2 : Hid ((w10.setCell ⟨gO, a, none⟩ (.int .i64 (qn : Int))).ownsRow gO 3 1 (.slice (some ⟨gO, 0, none⟩) (Mi + 1) (Mi + 1)) (Mi + 1) ((L.set a (qn : Int)).map (Value.int .i64))) := by
        unfold Hid; rw [List.map_set]; exact (ox.stored a (.int .i64 (qn : Int))).1
      have hx10 : Ext w9 (w10.setCell ⟨gO, a, none⟩ (.int .i64 (qn : Int))) := (hx.trans hw10).setCell (by have := HGO.out; show w9.heap.size ≤ gO; omega) _
      have hq8 := HC8.out a hai qn hq1
      have HW2 : Hid (WalkOn f c (L.set a (qn : Int)) a mn) := HW.out.back (by omega) (by have := HLL.out; omega) hq1 (by rw [hpw, (far_ok HOK.out).symm HOK.out hq8 hp8]; exact hq2)
      have HL2 : Hid ((L.set a (qn : Int)).length = Mi + 1) := by unfold Hid; rw [List.length_set]; exact HLL.out
      have HP2 : Hid ((L.set a (qn : Int))[mn]? = some (pq : Int)) := by unfold Hid; rw [List.getElem?_set_ne (by omega)]; exact HP.out
      clear HO HW HP HLL ox o0 hpw hpn1 hpn2 hex hq1 hq2
      go_wp2
      go_roundw
      case rel => exact ⟨a, _, _, by omega, rfl, rfl, HL2, HO2, HW2, HP2, hx10⟩
      case measure => simp [intOf]; try omega
end Go.Proofs.YtlonpgbapiemcaaGreat
