/- The walks of the reference's Twins and Decide. Printed by my gen_fref11.py. -/
import Derived.Test.YtpbpcplboikpcaaGreatGa
namespace Go.Proofs.YtpbpcplboikpcaaGreat
open Go Go.RowKit Go.Shelf
set_option linter.unusedVariables false
set_option linter.unusedSimpArgs false

theorem placesL_lt2 {f : Fg} : ∀ x ∈ placesL f, 0 ≤ x ∧ x < f.pl := fun x hx => by
  unfold placesL natI at hx
  obtain ⟨q, hq, rfl⟩ := List.mem_map.1 hx
  have := List.mem_range.1 hq
  omega
theorem loud_ch {f : Fg} {l : List Int} {n : Int} (h : ∀ x ∈ l, 0 ≤ x ∧ x < f.pl) (hn : n ≤ 7) : ∀ x ∈ loudM l n, (0 ≤ x.1 ∧ x.1 < f.pl) ∧ x.2 ≤ 7 := fun x hx => by
  unfold loudM at hx
  obtain ⟨y, hy, rfl⟩ := List.mem_map.1 hx
  exact ⟨h y hy, hn⟩
set_option maxRecDepth 100000 in
set_option maxHeartbeats 4000000 in
theorem reftwins_any (v : Value) (f : Fg) (A : Option Addr) (ka : Nat) (l : List Int) (n : Int) (w : World) (hf : RgR w v f (distL f)) (hs : f.sized) (hok : FogOK f) (hA : Ints w A l) (hl : ∀ x ∈ l, 0 ≤ x ∧ x < f.pl) (hl8 : l.length ≤ 8) (hn : n ≤ 7) :
    Calls Tryz.prog 40 #[v, .slice A l.length ka, .int .i64 n] w fun e w' => ∃ r, e = .returned r ∧ Ext w w' ∧ PrsR w' r (twinsM (farM f) f l n) := by
  obtain ⟨s, A4, c4, rfl, hr, hd⟩ := hf
  have HS := hid hs
  have HOK := hid hok
  obtain ⟨P, hP⟩ : ∃ P : Nat, f.pl = P := ⟨f.pl.toNat, by have := hok.pl; omega⟩
  have hP8 : P ≤ 8 := by have := hok.pl; omega
  have HP : Hid (f.pl.toNat = P) := by unfold Hid; omega
  have HF : Hid (∀ w', Ext w w' → RgR w' (.agg #[.int .i64 (P : Int), .int .i64 f.mi, .slice s.a1 f.tr.length s.c1, .slice s.a2 f.bl.length s.c2, .slice s.a3 f.ct.length s.c3, .slice A4 (distL f).length c4]) f (distL f)) := fun w' h => ⟨s, A4, c4, by unfold rval; rw [hP], hr.ext h, hd.ext h⟩
  obtain ⟨W0, hW0⟩ : ∃ W0, w.alloc (.cells #[.int .i64 (P : Int), .int .i64 f.mi, .slice s.a1 f.tr.length s.c1, .slice s.a2 f.bl.length s.c2, .slice s.a3 f.ct.length s.c3, .slice A4 (distL f).length c4] 37) = W0 := ⟨_, rfl⟩
  have hx0 : Ext w W0 := by rw [← hW0]; exact Ext.alloc (Ext.refl w) _
  have FX : Hid (∀ w', Ext W0 w' → w'.cell? ⟨w.heap.size, 0, none⟩ = some (.int .i64 (P : Int)) ∧ w'.cell? ⟨w.heap.size, 1, none⟩ = some (.int .i64 f.mi) ∧ w'.cell? ⟨w.heap.size, 2, none⟩ = some (.slice s.a1 f.tr.length s.c1) ∧ w'.cell? ⟨w.heap.size, 3, none⟩ = some (.slice s.a2 f.bl.length s.c2) ∧ w'.cell? ⟨w.heap.size, 4, none⟩ = some (.slice s.a3 f.ct.length s.c3) ∧ w'.cell? ⟨w.heap.size, 5, none⟩ = some (.slice A4 (distL f).length c4)) := fun w' h => ⟨h.cell (by rw [← hW0]; simp [go_sem]), h.cell (by rw [← hW0]; simp [go_sem]), h.cell (by rw [← hW0]; simp [go_sem]), h.cell (by rw [← hW0]; simp [go_sem]), h.cell (by rw [← hW0]; simp [go_sem]), h.cell (by rw [← hW0]; simp [go_sem])⟩
  have HV : Hid (rval s f (.slice A4 (distL f).length c4) = .agg #[.int .i64 (P : Int), .int .i64 f.mi, .slice s.a1 f.tr.length s.c1, .slice s.a2 f.bl.length s.c2, .slice s.a3 f.ct.length s.c3, .slice A4 (distL f).length c4]) := by unfold Hid rval; rw [hP]
  rw [HV.out]
  have HPI : Hid (f.pl = (P : Int)) := hP
  clear hP hok hs HV
  have HI := hid hA
  have HL := hid hl
  have HTV : Hid (twinsM (farM f) f l n = pairsM (farM f) (loudM (placesL f) n) l) := rfl
  rw [HTV.out]
  obtain ⟨Q, hQ⟩ : ∃ Q, placesL f = Q := ⟨_, rfl⟩
  have HQT : Hid (∀ i, i < P → Q.take i ++ [(i : Int)] = Q.take (i + 1)) := fun i hi => by rw [← hQ]; exact placesL_take f i (by rw [HP.out]; exact hi)
  have HQL : Hid (Q.length = P) := by unfold Hid; rw [← hQ, placesL_len, HP.out]
  have HQC : Hid (∀ x ∈ loudM Q n, (0 ≤ x.1 ∧ x.1 < f.pl) ∧ x.2 ≤ 7) := by rw [← hQ]; exact loud_ch placesL_lt2 hn
  have HLM : Hid ((loudM Q n).length = P) := by unfold Hid; rw [loudM_len, HQL.out]
  rw [hQ]
  clear hl hA hQ hn
  go_enter Tryz.func40, Tryz.ntmps40
  go_wp2
  try rw [hW0]
  clear hW0
  go_loopw [8, 7] (fun i8 i7 wr => ∃ (i : Nat) (D : Option Addr) (kk : Nat), i ≤ P ∧ i8 = .int .i64 (i : Int) ∧ i7 = .slice D i kk ∧ Hid (wr.ownsRow W0.heap.size 3 1 (.slice D i kk) i ((Q.take i).map (.int .i64))) ∧ Ext W0 wr) (fun i _ _ => P - (intOf i).toNat)
  case atStart => exact ⟨0, none, 0, Nat.zero_le _, rfl, rfl, own_nil _ _ _ _, Ext.refl _⟩
  case round =>
    obtain ⟨i, D, kk, hi, rfl, rfl, HOW, hxr⟩ := hrel
    obtain ⟨d0, d1, d2, d3, d4, d5⟩ := FX.out wr hxr
    by_cases hlt : i < P
    · have hlt' : (i : Int) < (P : Int) := by omega
      obtain ⟨W5, hW5⟩ : ∃ W5, wr.alloc (.cells #[.int .i64 (i : Int)] 3) = W5 := ⟨_, rfl⟩
      have hx5 : Ext wr W5 := by rw [← hW5]; exact Ext.alloc (Ext.refl _) _
      have HRD : Hid (Rd W5 (some ⟨wr.heap.size, 0, none⟩) [.int .i64 (i : Int)]) := by
        unfold Hid; rw [← hW5]
        exact rd_block (heap_alloc_new wr (.cells #[.int .i64 (i : Int)] 3))
      have OW5 := hid (own_below HOW.out hx5)
      have hxw5 := hxr.trans hx5
      have hsz5 := hxw5.size
      have hnb : (i + 1) * 8 ≤ 140737488355328 := by omega
      have HXW := hid hxw5
      have HTK := hid (HQT.out i hlt)
      clear hxw5 HOW
      go_wp2_with (at_builtin; (try rw [hW5]); refine wpList_append_rd2 _ rfl _ _ 42 rfl elem_int W0.heap.size _ i _ rfl OW5.out (some ⟨wr.heap.size, 0, none⟩) 1 1 [.int .i64 (i : Int)] rfl rfl HRD.out (by simp [Value.oneCell']) hnb hsz5 ?_)
      intro A6 k6 W6 own6 hbel6 hgr6 hloc6
      have hxw6 : Ext W0 W6 := Ext.grown HXW.out hgr6 (fun k e => (OW5.out.lt k e).1)
      have HO6 : Hid (W6.ownsRow W0.heap.size 3 1 (.slice A6 (i + 1) k6) (i + 1) ((Q.take (i + 1)).map (.int .i64))) := by
        unfold Hid
        rw [← HTK.out, List.map_append, List.map_take]
        exact own6
      clear own6 hloc6 hgr6 hbel6 d0 d1 d2 d3 d4 d5
      go_wp2
      go_roundw
      case rel => exact ⟨i + 1, A6, k6, by omega, by go_num, rfl, HO6, hxw6⟩
      case measure => simp [intOf]; omega
    · have hlt' : ¬ (i : Int) < (P : Int) := by omega
      obtain rfl : i = P := by omega
      have hown := HOW.out
      rw [List.take_of_length_le (by rw [HQL.out]; exact Nat.le_refl _)] at hown
      have HIQ : Hid (Ints wr D Q) := Rd.of_own hown
      have HCH : Hid (∀ w', Ext wr w' → Calls Tryz.prog 134 #[.slice D i kk, .int .i64 n] w' fun e w2 => ∃ r, e = .returned r ∧ Ext w' w2 ∧ PrsR w2 r (loudM Q n)) := fun w' h => by
        have K := choice_any D kk Q n w' (HIQ.out.ext h) (by rw [HQL.out]; omega)
        rw [HQL.out] at K
        exact K
      clear hown HOW hlt d0 d1 d2 d3 d4 d5
      obtain ⟨d0, d1, d2, d3, d4, d5⟩ := FX.out wr hxr
      go_wp2
      clear d0 d1 d2 d3 d4 d5
      refine wp_region_shut Ext (fun w' => Ext wr w') (fun
        | 4 => some (fun v w' => ∃ Ax cx, v = .slice Ax i cx ∧ Prs w' Ax (loudM Q n))
        | 5 => some (fun v w' => PrsR w' v (pairsM (farM f) (loudM Q n) l))
        | _ => none) (by kernel_rfl) (by kernel_rfl) (fun _ _ h k => h.trans k) ?hT (Ext.drew (Ext.refl wr)) ?_
      case hT =>
        intro i R hR
        match i, hR with
        | 4, hR => cases hR; exact fun _ _ _ ⟨Ax, cx, e, h⟩ k => ⟨Ax, cx, e, Rows.ext h k⟩
        | 5, hR => cases hR; exact fun _ _ _ h k => h.ext k
      refine wM_val ?ua0 rfl rfl Ext.refl (fun w' hD => ?ha0) (fun pha0 => ?na0)
      case ha0 =>
        obtain ⟨d0, d1, d2, d3, d4, d5⟩ := FX.out w' (hxr.trans hD.1)
        go_simp; rfl
      simp only [Act.put, List.setIfInBounds_toArray, List.set_cons_succ, List.set_cons_zero, Nat.reduceAdd]
      refine wM_val ?ua1 rfl rfl Ext.refl (fun w' hD => ?ha1) (fun pha1 => ?na1)
      case ha1 =>
        obtain ⟨d0, d1, d2, d3, d4, d5⟩ := FX.out w' (hxr.trans hD.1)
        go_simp; rfl
      simp only [Act.put, List.setIfInBounds_toArray, List.set_cons_succ, List.set_cons_zero, Nat.reduceAdd]
      refine wM_val ?ua2 rfl rfl Ext.refl (fun w' hD => ?ha2) (fun pha2 => ?na2)
      case ha2 =>
        obtain ⟨d0, d1, d2, d3, d4, d5⟩ := FX.out w' (hxr.trans hD.1)
        go_simp; rfl
      simp only [Act.put, List.setIfInBounds_toArray, List.set_cons_succ, List.set_cons_zero, Nat.reduceAdd]
      refine wM_val ?ua3 rfl rfl Ext.refl (fun w' hD => ?ha3) (fun pha3 => ?na3)
      case ha3 =>
        obtain ⟨d0, d1, d2, d3, d4, d5⟩ := FX.out w' (hxr.trans hD.1)
        go_simp; rfl
      simp only [Act.put, List.setIfInBounds_toArray, List.set_cons_succ, List.set_cons_zero, Nat.reduceAdd]
      refine wM_op _ rfl rfl (opens_call ?fa4 ?ga4 (fun w' hD => ?ha4) (fun w' hD => ?ca4)) (fun v4 hv4 => ?na4)
      case ha4 => go_simp; constructor <;> rfl
      case ca4 =>
        refine (HCH.out w' hD.1).mono ?_
        rintro e w2 ⟨r, rfl, hb, Ax, cx, rfl, hp⟩
        exact ⟨_, rfl, hb, Ax, cx, by rw [HLM.out], hp⟩
      obtain ⟨_, -, -, A6, k6, rfl, -⟩ := hv4
      simp only [Act.put, List.setIfInBounds_toArray, List.set_cons_succ, List.set_cons_zero, Nat.reduceAdd]
      refine wM_op _ rfl rfl (opens_call ?fa5 ?ga5 (fun w' hD => ?ha5) (fun w' hD => ?ca5)) (fun v5 hv5 => ?na5)
      case ha5 => go_simp; constructor <;> rfl
      case ca5 =>
        obtain ⟨_, Ax, cx, ex, hpx⟩ := hD.get 4 (by first | kernel_rfl | simp [Region.binds])
        cases ex
        have K := refapart_any _ f A A6 ka k6 l (loudM Q n) w' (HF.out w' (hx0.trans (hxr.trans hD.1))) HS.out HOK.out (HI.out.ext (hx0.trans (hxr.trans hD.1))) HL.out hl8 hpx (by rw [HLM.out]; omega) HQC.out
        rw [HLM.out] at K
        refine K.mono ?_
        rintro e w2 ⟨r, rfl, hb, hp⟩
        exact ⟨_, rfl, hb, hp⟩
      obtain ⟨v5, -, -, -⟩ := hv5
      simp only [Act.put, List.setIfInBounds_toArray, List.set_cons_succ, List.set_cons_zero, Nat.reduceAdd]
      refine wM_val ?ua6 rfl rfl Ext.refl (fun w' hD => ?ha6) (fun pha6 => ?na6)
      case ha6 =>
        obtain ⟨d0, d1, d2, d3, d4, d5⟩ := FX.out w' (hxr.trans hD.1)
        go_simp; rfl
      simp only [Act.put, List.setIfInBounds_toArray, List.set_cons_succ, List.set_cons_zero, Nat.reduceAdd]
      refine wM_nil ?_
      intro w9 hw9 hF9
      obtain ⟨-, hres⟩ := hF9 5
      have HRES := hid hres
      have hxw9 := hx0.trans (hxr.trans hw9)
      clear hF9 hres
      go_wp2
      go_ret
      exact ⟨_, rfl, hxw9, HRES.out⟩
end Go.Proofs.YtpbpcplboikpcaaGreat
