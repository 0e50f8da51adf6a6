/- The law's walked: a walk of a cart, whatever it reports. Printed by my gen_fwalkd.py. -/
import Derived.Test.YtlonpgbapiemcaaGreatFMadeR
import Derived.Test.YtlonpgbapiemcaaGreatFBesi
namespace Go.Proofs.YtlonpgbapiemcaaGreat
open Go Go.RowKit Go.Shelf
set_option linter.unusedVariables false
set_option linter.unusedSimpArgs false

theorem rd_blk {w : World} {B : Nat} {xs : List Value} {T : TypeId} {fr : Nat × Nat} (h : w.heap[B]? = some (.cells xs.toArray T fr)) : Rd w (some ⟨B, 0, none⟩) xs := by
  refine .inr ⟨B, 0, rfl, fun j u hu => ?_⟩
  rw [Nat.zero_add, cell_of_row w B j _ _ _ h]
  simpa using hu
/-- So many steps of a real walk. -/
structure WalkTo (f : Fg) (c : Ct) (l : List Int) (j : Nat) : Prop where
  len : l.length = j + 1
  pl : ∀ x ∈ l, 0 ≤ x ∧ x < f.pl
  st : l.getD 0 0 ∈ c.st
  step : ∀ i, i < j → l.getD i 0 = l.getD (i + 1) 0 ∨ besideL f.tr (l.getD i 0) (l.getD (i + 1) 0) = true
theorem WalkTo.start {f : Fg} (h : FogOK f) {c : Ct} (hc : c ∈ f.ct) {x : Int} (hx : x ∈ c.st) : WalkTo f c [x] 0 :=
  ⟨rfl, fun y hy => by simp only [List.mem_singleton] at hy; subst hy; exact h.st c hc y hx, hx, fun i hi => by omega⟩
theorem WalkTo.at_ {f : Fg} {c : Ct} {l : List Int} {j : Nat} (h : WalkTo f c l j) : ∃ x : Nat, l[j]? = some (x : Int) ∧ (x : Int) < f.pl ∧ l.getD j 0 = (x : Int) := by
  have hl := h.len
  have hj : j < l.length := by omega
  have hx := h.pl l[j] (List.getElem_mem hj)
  refine ⟨l[j].toNat, ?_, by omega, ?_⟩
  · rw [List.getElem?_eq_getElem hj]; congr 1; omega
  · rw [List.getD_eq_getElem?_getD, List.getElem?_eq_getElem hj]; simp only [Option.getD_some]; omega
theorem WalkTo.next {f : Fg} {c : Ct} {l : List Int} {j : Nat} (h : WalkTo f c l j) {z : Int} (h0 : 0 ≤ z) (h1 : z < f.pl) (hz : l.getD j 0 = z ∨ besideL f.tr (l.getD j 0) z = true) : WalkTo f c (l ++ [z]) (j + 1) := by
  have hl := h.len
  have e1 : ∀ i, i < l.length → (l ++ [z]).getD i 0 = l.getD i 0 := fun i hi => by
    rw [List.getD_eq_getElem?_getD, List.getD_eq_getElem?_getD, List.getElem?_append_left hi]
  have e2 : (l ++ [z]).getD (j + 1) 0 = z := by
    rw [List.getD_eq_getElem?_getD, List.getElem?_append_right (by omega), hl]; simp
  refine ⟨by simp [hl], fun x hx => ?_, by rw [e1 0 (by omega)]; exact h.st, fun i hi => ?_⟩
  · rcases List.mem_append.1 hx with hx | hx
    · exact h.pl x hx
    · simp only [List.mem_singleton] at hx; subst hx; exact ⟨h0, h1⟩
  · rw [e1 i (by omega)]
    by_cases hij : i = j
    · subst hij
      rw [e2]; exact hz
    · rw [e1 (i + 1) (by omega)]
      exact h.step i (by omega)
theorem WalkTo.real {f : Fg} {c : Ct} {l : List Int} {j : Nat} (h : WalkTo f c l j) (hj : j = f.mi.toNat) : RealW f c l :=
  ⟨by rw [h.len, hj], h.pl, h.st, fun i hi => h.step i (by omega)⟩
def WalkPost (D : Nat) (w : World) (f : Fg) (c : Ct) (e : Ending) (w' : World) : Prop :=
  ∃ l A q B, e = .returned (.slice A l.length q) ∧ Bel D w w' ∧ HeapR w' D ∧ RealW f c l ∧ w.heap.size ≤ B ∧ w'.ownsRow B 3 1 (.slice A l.length q) l.length (l.map (.int .i64))

set_option maxRecDepth 100000 in
set_option maxHeartbeats 4000000 in
theorem walked_any (D : Nat) (v : Value) (f : Fg) (k : Nat) (c : Ct) (w : World) (hh : HeapR w D) (hf : OwnG w v f) (hok : FogOK f) (hc : f.ct[k]? = some c) :
    Calls Tryz.prog 17 #[.pointer (some ⟨D, 0, none⟩), v, .int .i64 (k : Int)] w (WalkPost D w f c) := by
  have hcm := mem_of_get hc
  have hst := st_len hok hcm
  have hne := hok.ne c hcm
  have hk := (List.getElem?_eq_some_iff.1 hc).1
  have hk' : (k : Int) < (f.ct.length : Int) := by omega
  have hp := hok.pl
  have hmi := hok.mi
  have htn := hok.tn
  have HOK := hid hok
  have HCM : Hid (c ∈ f.ct) := hcm
  obtain ⟨s, b, off, A1, c1, A2, c2, B0, rfl, hA3, k0, -, o1, -⟩ := hf.cart hc
  have hDw := hh.lt
  obtain ⟨W0, hW0⟩ : ∃ W0, w.alloc (.cells #[.int .i64 f.pl, .int .i64 f.mi, .slice s.a1 f.tr.length s.c1, .slice s.a2 f.bl.length s.c2, .slice s.a3 f.ct.length s.c3] 29) = W0 := ⟨_, rfl⟩
  have hx0 : Ext w W0 := by rw [← hW0]; exact Ext.alloc (Ext.refl w) _
  have hz0 : W0.heap.size = w.heap.size + 1 := by rw [← hW0]; simp
  have FX : Hid (∀ w', Bel D W0 w' → w'.cell? ⟨w.heap.size, 0, none⟩ = some (.int .i64 f.pl) ∧ w'.cell? ⟨w.heap.size, 1, none⟩ = some (.int .i64 f.mi) ∧ w'.cell? ⟨w.heap.size, 2, none⟩ = some (.slice s.a1 f.tr.length s.c1) ∧ w'.cell? ⟨w.heap.size, 3, none⟩ = some (.slice s.a2 f.bl.length s.c2) ∧ w'.cell? ⟨w.heap.size, 4, none⟩ = some (.slice s.a3 f.ct.length s.c3)) := fun w' h =>
    ⟨h.cell (by rw [← hW0]; simp [go_sem]) (by simp; omega), h.cell (by rw [← hW0]; simp [go_sem]) (by simp; omega), h.cell (by rw [← hW0]; simp [go_sem]) (by simp; omega), h.cell (by rw [← hW0]; simp [go_sem]) (by simp; omega), h.cell (by rw [← hW0]; simp [go_sem]) (by simp; omega)⟩
  have HOG : Hid (∀ w', Bel D w w' → FgR w' (.agg #[.int .i64 f.pl, .int .i64 f.mi, .slice s.a1 f.tr.length s.c1, .slice s.a2 f.bl.length s.c2, .slice s.a3 f.ct.length s.c3]) f) := fun w' h => (hf.bel hh h).fg
  have HH := hid hh
  have hh0 := hh.ext hx0
  have q := FX.out W0 (Bel.refl _ _)
  obtain ⟨q0, q1, q2, q3, q4⟩ := q
  have k0' := hx0.cell k0
  have HST : Hid (∀ w', Bel D w w' → Ints w' A1 c.st) := fun w' h => Rd.of_own (Deal_own HH.out o1 h)
  have hb0 : Bel D w W0 := hx0.bel
  rw [hA3] at q4
  have HA3 := hid hA3
  clear hf hh hc k0 hok o1 hA3
  unfold Ads.val fval
  go_enter Tryz.func17, Tryz.ntmps17
  go_wp2_with fail
  try rw [hW0]
  clear hW0
  refine (upto_any D ((c.st.length : Int) - 1) W0 hh0 (by omega) (by omega)).mono ?_
  rintro e w1 ⟨i, rfl, i0, i1, hb1, hh1⟩
  have hbx1 := hb0.trans hb1
  obtain ⟨ii, rfl⟩ : ∃ ii : Nat, i = ii := ⟨i.toNat, by omega⟩
  obtain ⟨x, hxi⟩ := get_of_lt c.st ii (by omega)
  have hii : (ii : Int) < (c.st.length : Int) := by omega
  obtain ⟨b2, o2, e2, kx⟩ := Ints.at_ (HST.out w1 hbx1) hxi
  have HW0 := hid (WalkTo.start HOK.out HCM.out (mem_of_get hxi))
  rw [e2]
  obtain ⟨q0', q1', q2', q3', q4'⟩ := FX.out w1 hb1
  obtain ⟨w2, hw2⟩ : ∃ w2, w1.alloc (.cells #[.int .i64 x] 3) = w2 := ⟨_, rfl⟩
  have hx2 : Ext w1 w2 := by rw [← hw2]; exact Ext.alloc (Ext.refl _) _
  have hN : Nrow w2 w1.heap.size [x] := by unfold Nrow; rw [← hw2]; exact heap_alloc_new w1 _
  have O0 := hid (hN.own (Nat.le_refl _) (n := 1) rfl (by decide))
  have hbW2 : Bel D W0 w2 := hb1.trans hx2.bel
  have hh2 := hh1.ext hx2
  have q1'' := hx2.cell q1'
  have hB : w.heap.size ≤ w1.heap.size := by have := hb1.size; omega
  have hB2 : W0.heap.size ≤ w1.heap.size := hb1.size
  obtain ⟨Mi, hMi⟩ : ∃ Mi : Nat, f.mi = Mi := ⟨f.mi.toNat, by omega⟩
  have HMI := hid hMi
  have hM8 : Mi ≤ 8 := by omega
  rw [hMi] at q1''
  clear q0 q1 q2 q3 q4 hxi hN hMi
  go_wp2
  try rw [hw2]
  clear hw2 q0' q1' q2' q3' q4' q1'' kx
  go_loopw [29, 8] (fun i29 i8 wr => ∃ (j : Nat) (l : List Int) (A : Option Addr) (q : Nat), j ≤ Mi ∧ i29 = .int .i64 (j : Int) ∧ i8 = .slice A (j + 1) q ∧ Hid (WalkTo f c l j) ∧ Hid (wr.ownsRow w1.heap.size 3 1 (.slice A (j + 1) q) (j + 1) (l.map (.int .i64))) ∧ Bel D W0 wr ∧ HeapR wr D ∧ w1.heap.size ≤ wr.heap.size) (fun i _ _ => Mi - (intOf i).toNat)
  case atStart => exact ⟨0, [x], _, 1, Nat.zero_le _, rfl, rfl, HW0, O0, hbW2, hh2, hx2.size⟩
  case round =>
    obtain ⟨j, l, A, q, hj, rfl, rfl, HW, O, hbW, hh, hsz⟩ := hrel
    by_cases hlt : j < Mi
    · have hlt' : (j : Int) < (Mi : Int) := by omega
      obtain ⟨x, hx, hxp, hgx⟩ := HW.out.at_
      obtain ⟨b4, o4, e4, k4⟩ := Ints.at_ (Rd.of_own O.out) hx
      subst e4
      obtain ⟨q0, q1, q2, q3, q4⟩ := FX.out wr hbW
      have HGX := hid hgx
      clear hx hgx
      go_wp2_with fail
      refine (upto_any D (f.pl - 1) wr hh (by omega) (by omega)).mono ?_
      rintro e w3 ⟨y, rfl, y0, y1, hbr3, hh3⟩
      have hy : y < f.pl := by omega
      obtain ⟨yn, rfl⟩ : ∃ yn : Nat, y = yn := ⟨y.toNat, by omega⟩
      have hbW3 := hbW.trans hbr3
      have hbx3 := hb0.trans hbW3
      have K := lbeside_any _ f (x : Int) (yn : Int) w3 (HOG.out w3 hbx3) (by omega)
      obtain ⟨BS, hBS⟩ : ∃ BS, besideL f.tr (x : Int) (yn : Int) = BS := ⟨_, rfl⟩
      rw [hBS] at K
      have HBS := hid hBS
      have HK := hid K
      clear K hBS q0 q1 q2 q3 q4
      obtain ⟨q0, q1, q2, q3, q4⟩ := FX.out w3 hbW3
      go_wp2_with fail
      refine HK.out.mono ?_
      clear HK
      rintro e w4 ⟨rfl, h4⟩
      have hbr4 := hbr3.trans h4.bel
      have hbW4 := hbW.trans hbr4
      have hh4 := hh3.ext h4
      clear q0 q1 q2 q3 q4 k4
      cases BS
      case false =>
        have O4 := hid (Deal_own hh O.out hbr4)
        have hBw : w1.heap.size ≤ w4.heap.size := by have := hbr4.size; omega
        have hxo := Ext.alloc (Ext.refl w4) (.cells #[.int .i64 (x : Int)] 3)
        have hR9 : w1.heap.size ≤ (w4.alloc (.cells #[.int .i64 (x : Int)] 3)).heap.size := by have := hxo.size; omega
        have HWN : Hid (WalkTo f c (l ++ [(x : Int)]) (j + 1)) := HW.out.next (by omega) (by omega) (.inl HGX.out)
        clear HW
        go_wp2_with (at_builtin; refine wpList_append_rd2 _ rfl _ _ 37 rfl elem_int w1.heap.size (.slice (some ⟨b4, o4, none⟩) (j + 1) q) (j + 1) (l.map (.int .i64)) rfl (own_below O4.out hxo) _ 1 1 [.int .i64 (x : Int)] rfl rfl (rd_blk (heap_alloc_new w4 _)) (by intro u hu; simp at hu; subst hu; rfl) (by omega) hR9 ?_)
        intro A5 c5 w5 hown5 hbel5 hgr5 hat5
        have hS5 : BelS (fun k => (Value.slice (some ⟨b4, o4, none⟩) (j + 1) q).ownBlock = some k) w4 w5 := BelS.trans (hxo.belS) ((BelS.refl _ _).grown hgr5 (fun k e => e))
        have hAo : ∀ g, (Value.slice (some ⟨b4, o4, none⟩) (j + 1) q).ownBlock = some g → w1.heap.size ≤ g := fun g hg => by
          obtain ⟨a, ha, he⟩ := slice_own hg
          have h1 := own_block_lt O4.out a ha
          omega
        have hh5 : HeapR w5 D := hh4.belS hS5 (fun k hk e => by have := hAo k e; omega)
        have hb5 : Bel D W0 w5 := hbW4.then_ hS5 (fun i hi e => by have := hAo i e; omega)
        have O5 : Hid (w5.ownsRow w1.heap.size 3 1 (.slice A5 (j + 1 + 1) c5) (j + 1 + 1) ((l ++ [(x : Int)]).map (.int .i64))) := by unfold Hid; simpa using hown5
        have hz5 : w1.heap.size ≤ w5.heap.size := by have := hS5.size; omega
        clear hown5 hbel5 hgr5 hat5 hS5 O4 O hxo hR9
        go_wp2
        go_roundw
        case rel => exact ⟨j + 1, l ++ [(x : Int)], A5, c5, by omega, by go_num, rfl, HWN, O5, hb5, hh5, hz5⟩
        case measure => simp [intOf]; omega
      case true =>
        go_wp2_with fail
        refine (once_any D 4 w4 hh4 (by omega) (by omega)).mono ?_
        rintro e w6 ⟨bb, rfl, hb6, hh6⟩
        have hbr6 := hbr4.trans hb6
        have hbW6 := hbW.trans hbr6
        cases bb
        case false =>
          have O4 := hid (Deal_own hh O.out hbr6)
          have hBw : w1.heap.size ≤ w6.heap.size := by have := hbr6.size; omega
          have hxo := Ext.alloc (Ext.refl w6) (.cells #[.int .i64 (yn : Int)] 3)
          have hR9 : w1.heap.size ≤ (w6.alloc (.cells #[.int .i64 (yn : Int)] 3)).heap.size := by have := hxo.size; omega
          have HWN : Hid (WalkTo f c (l ++ [(yn : Int)]) (j + 1)) := HW.out.next (by omega) (by omega) (.inr (by rw [HGX.out]; exact HBS.out))
          clear HW
          go_wp2_with (at_builtin; refine wpList_append_rd2 _ rfl _ _ 37 rfl elem_int w1.heap.size (.slice (some ⟨b4, o4, none⟩) (j + 1) q) (j + 1) (l.map (.int .i64)) rfl (own_below O4.out hxo) _ 1 1 [.int .i64 (yn : Int)] rfl rfl (rd_blk (heap_alloc_new w6 _)) (by intro u hu; simp at hu; subst hu; rfl) (by omega) hR9 ?_)
          intro A5 c5 w5 hown5 hbel5 hgr5 hat5
          have hS5 : BelS (fun k => (Value.slice (some ⟨b4, o4, none⟩) (j + 1) q).ownBlock = some k) w6 w5 := BelS.trans (hxo.belS) ((BelS.refl _ _).grown hgr5 (fun k e => e))
          have hAo : ∀ g, (Value.slice (some ⟨b4, o4, none⟩) (j + 1) q).ownBlock = some g → w1.heap.size ≤ g := fun g hg => by
            obtain ⟨a, ha, he⟩ := slice_own hg
            have h1 := own_block_lt O4.out a ha
            omega
          have hh5 : HeapR w5 D := hh6.belS hS5 (fun k hk e => by have := hAo k e; omega)
          have hb5 : Bel D W0 w5 := hbW6.then_ hS5 (fun i hi e => by have := hAo i e; omega)
          have O5 : Hid (w5.ownsRow w1.heap.size 3 1 (.slice A5 (j + 1 + 1) c5) (j + 1 + 1) ((l ++ [(yn : Int)]).map (.int .i64))) := by unfold Hid; simpa using hown5
          have hz5 : w1.heap.size ≤ w5.heap.size := by have := hS5.size; omega
          clear hown5 hbel5 hgr5 hat5 hS5 O4 O hxo hR9
          go_wp2
          go_roundw
          case rel => exact ⟨j + 1, l ++ [(yn : Int)], A5, c5, by omega, by go_num, rfl, HWN, O5, hb5, hh5, hz5⟩
          case measure => simp [intOf]; omega
        case true =>
          have O4 := hid (Deal_own hh O.out hbr6)
          have hBw : w1.heap.size ≤ w6.heap.size := by have := hbr6.size; omega
          have hxo := Ext.alloc (Ext.refl w6) (.cells #[.int .i64 (x : Int)] 3)
          have hR9 : w1.heap.size ≤ (w6.alloc (.cells #[.int .i64 (x : Int)] 3)).heap.size := by have := hxo.size; omega
          have HWN : Hid (WalkTo f c (l ++ [(x : Int)]) (j + 1)) := HW.out.next (by omega) (by omega) (.inl HGX.out)
          clear HW
          go_wp2_with (at_builtin; refine wpList_append_rd2 _ rfl _ _ 37 rfl elem_int w1.heap.size (.slice (some ⟨b4, o4, none⟩) (j + 1) q) (j + 1) (l.map (.int .i64)) rfl (own_below O4.out hxo) _ 1 1 [.int .i64 (x : Int)] rfl rfl (rd_blk (heap_alloc_new w6 _)) (by intro u hu; simp at hu; subst hu; rfl) (by omega) hR9 ?_)
          intro A5 c5 w5 hown5 hbel5 hgr5 hat5
          have hS5 : BelS (fun k => (Value.slice (some ⟨b4, o4, none⟩) (j + 1) q).ownBlock = some k) w6 w5 := BelS.trans (hxo.belS) ((BelS.refl _ _).grown hgr5 (fun k e => e))
          have hAo : ∀ g, (Value.slice (some ⟨b4, o4, none⟩) (j + 1) q).ownBlock = some g → w1.heap.size ≤ g := fun g hg => by
            obtain ⟨a, ha, he⟩ := slice_own hg
            have h1 := own_block_lt O4.out a ha
            omega
          have hh5 : HeapR w5 D := hh6.belS hS5 (fun k hk e => by have := hAo k e; omega)
          have hb5 : Bel D W0 w5 := hbW6.then_ hS5 (fun i hi e => by have := hAo i e; omega)
          have O5 : Hid (w5.ownsRow w1.heap.size 3 1 (.slice A5 (j + 1 + 1) c5) (j + 1 + 1) ((l ++ [(x : Int)]).map (.int .i64))) := by unfold Hid; simpa using hown5
          have hz5 : w1.heap.size ≤ w5.heap.size := by have := hS5.size; omega
          clear hown5 hbel5 hgr5 hat5 hS5 O4 O hxo hR9
          go_wp2
          go_roundw
          case rel => exact ⟨j + 1, l ++ [(x : Int)], A5, c5, by omega, by go_num, rfl, HWN, O5, hb5, hh5, hz5⟩
          case measure => simp [intOf]; omega
    · have hlt' : ¬ (j : Int) < (Mi : Int) := by omega
      have hjm : j = f.mi.toNat := by have := HMI.out; omega
      have HR := hid (HW.out.real hjm)
      have HL := hid HW.out.len
      have hbw := hb0.trans hbW
      clear HW hjm
      go_wp2
      go_ret
      exact ⟨l, A, q, w1.heap.size, by rw [HL.out]; rfl, hbw, hh, HR.out, hB, by rw [HL.out]; exact O.out⟩
end Go.Proofs.YtlonpgbapiemcaaGreat
