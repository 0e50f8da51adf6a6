/- The walk of the closure of fog.Check that asks whether a cart's places stand in order. Printed by my gen_fchk3.py. -/
import Derived.Test.YtlonpgbapiemcaaGreatG3
import Derived.Deep.RegionWith
import Derived.Deep.DeepCutAuto
import Derived.BigRegion
namespace Go.Proofs.YtlonpgbapiemcaaGreat
open Go Go.RowKit Go.Shelf
set_option linter.unusedVariables false
set_option linter.unusedSimpArgs false

set_option maxRecDepth 100000 in
set_option maxHeartbeats 2000000 in
theorem check10_fn (w : World) : FnP Tryz.prog (.func (.func 84) #[] #[]) w CtR (fun x => 0 < x.st.length ∧ x.st.length ≤ 1000) (fun c => ascL c.st) := by
  refine ⟨_, _, _, rfl, enters_of Tryz.func84 (by kernel_rfl) rfl, fun x v W hs hW hR => ?_⟩
  obtain ⟨A, c, A', c', rfl, hS, hRp, hk1, hk2⟩ := hR
  obtain ⟨hs1, hs2⟩ := hs
  have hAn : A ≠ none := by
    rintro rfl
    obtain ⟨x0, h0⟩ := get_of_lt x.st 0 hs1
    obtain ⟨b, off, e, _⟩ := Ints.at_ hS h0
    cases e
  have HA : Hid (ascL x.st = true ↔ SortedA x.st ∧ NextA x.st) := ascL_adj
  show Calls _ _ #[_] _ _
  go_enter Tryz.func84, Tryz.ntmps84
  go_wp2
  obtain ⟨W0, hW0⟩ : ∃ W0, W.alloc (.cells #[.slice A x.st.length c, .slice A' x.rp.length c'] 63) = W0 := ⟨_, rfl⟩
  have hx0 : Ext W W0 := by rw [← hW0]; exact Ext.alloc (Ext.refl W) _
  have FX : Hid (∀ w', Ext W0 w' → w'.cell? ⟨W.heap.size, 0, none⟩ = some (.slice A x.st.length c) ∧ w'.cell? ⟨W.heap.size, 1, none⟩ = some (.slice A' x.rp.length c')) := fun w' h => ⟨h.cell (by rw [← hW0]; simp [go_sem]), h.cell (by rw [← hW0]; simp [go_sem])⟩
  have hsz : W.heap.size < W0.heap.size := by rw [← hW0]; simp
  rw [hW0]
  clear hW0
  cases hq : sortedB x.st
  · have HQ := hid hq
    have HN : Hid (ascL x.st = false) := by
      unfold Hid
      rw [Bool.eq_false_iff]
      intro h
      rw [sortedB_iff.2 (HA.out.1 h).1] at hq
      cases hq
    clear hq
    refine wp_region_shut Ext (fun w' => Ext W0 w') (fun | 2 => some (fun v _ => v = .bool (sortedB x.st)) | _ => none) (by kernel_rfl) (by kernel_rfl) (fun _ _ h k => h.trans k) ?hT (Ext.drew (Ext.refl W0)) ?_
    case hT =>
      intro i R hR
      match i, hR with
      | 2, hR => cases hR; exact fun _ _ _ h _ => h
    refine wM_val ?ua0 rfl rfl Ext.refl (fun w' hD => ?ha0) (fun pha0 => ?na0)
    case ha0 =>
      obtain ⟨d0, d1⟩ := FX.out w' hD.1
      go_simp; rfl
    simp only [Act.put, List.setIfInBounds_toArray, List.set_cons_succ, List.set_cons_zero, Nat.reduceAdd]
    refine wM_val ?ua1 rfl rfl Ext.refl (fun w' hD => ?ha1) (fun pha1 => ?na1)
    case ha1 =>
      obtain ⟨d0, d1⟩ := FX.out w' hD.1
      go_simp; rfl
    simp only [Act.put, List.setIfInBounds_toArray, List.set_cons_succ, List.set_cons_zero, Nat.reduceAdd]
    refine wM_op _ rfl rfl (opens_call ?fa2 ?ga2 (fun w' hD => ?ha2) (fun w' hD => ?ca2)) (fun v2 hv2 => ?na2)
    case ha2 => go_simp; constructor <;> rfl
    case ca2 =>
      refine (issorted_any A c x.st w' (hS.ext (hx0.trans hD.1)) (by omega)).mono ?_
      rintro e w2 ⟨rfl, hb⟩
      exact ⟨_, rfl, hb, rfl⟩
    obtain ⟨_, -, -, rfl⟩ := hv2
    simp only [Act.put, List.setIfInBounds_toArray, List.set_cons_succ, List.set_cons_zero, Nat.reduceAdd]
    rw [HQ.out]
    refine wM_val ?ua3 rfl rfl Ext.refl (fun w' hD => ?ha3) (fun pha3 => ?na3)
    case ha3 =>
      obtain ⟨d0, d1⟩ := FX.out w' hD.1
      go_simp; rfl
    simp only [Act.put, List.setIfInBounds_toArray, List.set_cons_succ, List.set_cons_zero, Nat.reduceAdd]
    refine wM_skip rfl ?_
    simp only [Act.put, List.setIfInBounds_toArray, List.set_cons_succ, List.set_cons_zero, Nat.reduceAdd]
    refine wM_skip rfl ?_
    simp only [Act.put, List.setIfInBounds_toArray, List.set_cons_succ, List.set_cons_zero, Nat.reduceAdd]
    refine wM_skip rfl ?_
    simp only [Act.put, List.setIfInBounds_toArray, List.set_cons_succ, List.set_cons_zero, Nat.reduceAdd]
    refine wM_skip rfl ?_
    simp only [Act.put, List.setIfInBounds_toArray, List.set_cons_succ, List.set_cons_zero, Nat.reduceAdd]
    refine wM_skip rfl ?_
    simp only [Act.put, List.setIfInBounds_toArray, List.set_cons_succ, List.set_cons_zero, Nat.reduceAdd]
    refine wM_skip rfl ?_
    simp only [Act.put, List.setIfInBounds_toArray, List.set_cons_succ, List.set_cons_zero, Nat.reduceAdd]
    refine wM_skip rfl ?_
    simp only [Act.put, List.setIfInBounds_toArray, List.set_cons_succ, List.set_cons_zero, Nat.reduceAdd]
    refine wM_skip rfl ?_
    simp only [Act.put, List.setIfInBounds_toArray, List.set_cons_succ, List.set_cons_zero, Nat.reduceAdd]
    refine wM_skip rfl ?_
    simp only [Act.put, List.setIfInBounds_toArray, List.set_cons_succ, List.set_cons_zero, Nat.reduceAdd]
    refine wM_val ?ua13 rfl rfl Ext.refl (fun w' hD => ?ha13) (fun pha13 => ?na13)
    case ha13 =>
      obtain ⟨d0, d1⟩ := FX.out w' hD.1
      go_simp; rfl
    simp only [Act.put, List.setIfInBounds_toArray, List.set_cons_succ, List.set_cons_zero, Nat.reduceAdd]
    refine wM_val ?ua14 rfl rfl Ext.refl (fun w' hD => ?ha14) (fun pha14 => ?na14)
    case ha14 =>
      obtain ⟨d0, d1⟩ := FX.out w' hD.1
      go_simp; rfl
    simp only [Act.put, List.setIfInBounds_toArray, List.set_cons_succ, List.set_cons_zero, Nat.reduceAdd]
    refine wM_nil ?_
    intro w9 hw9 hF9
    go_wp2
    go_ret
    exact ⟨ret_of (bool_of HN.out.symm), hx0.trans hw9⟩
  · have HQ := hid hq
    clear hq
    by_cases hnx : NextA x.st
    · have HNX := hid hnx
      have HN : Hid (ascL x.st = true) := HA.out.2 ⟨sortedB_iff.1 HQ.out, hnx⟩
      clear hnx
      refine wp_region_shut Ext (fun w' => Ext W0 w') (fun
        | 2 => some (fun v _ => v = .bool (sortedB x.st))
        | 6 => some (fun v W => ∃ g c, v = .slice (some ⟨g, 0, none⟩) x.st.length c ∧ W.ownsRow W0.heap.size 3 1 (.slice (some ⟨g, 0, none⟩) x.st.length c) x.st.length (x.st.map (.int .i64)))
        | 7 => some (fun v W => ∃ A c, v = .slice A x.st.length c)
        | _ => none) (by kernel_rfl) (by kernel_rfl) (fun _ _ h k => h.trans k) ?hT (Ext.drew (Ext.refl W0)) ?_
      case hT =>
        intro i R hR
        match i, hR with
        | 2, hR => cases hR; exact fun _ _ _ h _ => h
        | 6, hR => cases hR; exact fun _ _ _ ⟨g, c, e1, e2⟩ k => ⟨g, c, e1, own_below e2 k⟩
        | 7, hR => cases hR; exact fun _ _ _ h _ => h
      refine wM_val ?ub0 rfl rfl Ext.refl (fun w' hD => ?hb0) (fun phb0 => ?nb0)
      case hb0 =>
        obtain ⟨d0, d1⟩ := FX.out w' hD.1
        go_simp; rfl
      simp only [Act.put, List.setIfInBounds_toArray, List.set_cons_succ, List.set_cons_zero, Nat.reduceAdd]
      refine wM_val ?ub1 rfl rfl Ext.refl (fun w' hD => ?hb1) (fun phb1 => ?nb1)
      case hb1 =>
        obtain ⟨d0, d1⟩ := FX.out w' hD.1
        go_simp; rfl
      simp only [Act.put, List.setIfInBounds_toArray, List.set_cons_succ, List.set_cons_zero, Nat.reduceAdd]
      refine wM_op _ rfl rfl (opens_call ?fb2 ?gb2 (fun w' hD => ?hb2) (fun w' hD => ?cb2)) (fun v2 hv2 => ?nb2)
      case hb2 => go_simp; constructor <;> rfl
      case cb2 =>
        refine (issorted_any A c x.st w' (hS.ext (hx0.trans hD.1)) (by omega)).mono ?_
        rintro e w2 ⟨rfl, hb⟩
        exact ⟨_, rfl, hb, rfl⟩
      obtain ⟨_, -, -, rfl⟩ := hv2
      simp only [Act.put, List.setIfInBounds_toArray, List.set_cons_succ, List.set_cons_zero, Nat.reduceAdd]
      rw [HQ.out]
      refine wM_val ?ub3 rfl rfl Ext.refl (fun w' hD => ?hb3) (fun phb3 => ?nb3)
      case hb3 =>
        obtain ⟨d0, d1⟩ := FX.out w' hD.1
        go_simp; rfl
      simp only [Act.put, List.setIfInBounds_toArray, List.set_cons_succ, List.set_cons_zero, Nat.reduceAdd]
      refine wM_val ?ub4 rfl rfl Ext.refl (fun w' hD => ?hb4) (fun phb4 => ?nb4)
      case hb4 =>
        obtain ⟨d0, d1⟩ := FX.out w' hD.1
        go_simp; rfl
      simp only [Act.put, List.setIfInBounds_toArray, List.set_cons_succ, List.set_cons_zero, Nat.reduceAdd]
      refine wM_val ?ub5 rfl rfl Ext.refl (fun w' hD => ?hb5) (fun phb5 => ?nb5)
      case hb5 =>
        obtain ⟨d0, d1⟩ := FX.out w' hD.1
        go_simp; rfl
      simp only [Act.put, List.setIfInBounds_toArray, List.set_cons_succ, List.set_cons_zero, Nat.reduceAdd]
      refine wM_op _ rfl rfl (opens_call ?fb6 ?gb6 (fun w' hD => ?hb6) (fun w' hD => ?cb6)) (fun v6 hv6 => ?nb6)
      case hb6 => go_simp; constructor <;> rfl
      case cb6 =>
        refine (clone_int A c x.st w' (hS.ext (hx0.trans hD.1)) (by omega)).mono ?_
        rintro e w2 ⟨A6, c6, rfl, ho, hn, hb⟩
        obtain ⟨g, rfl⟩ := own_at ho (fun e => hAn (hn.1 e))
        exact ⟨_, rfl, hb, g, c6, rfl, own_base ho hD.1.size⟩
      obtain ⟨_, -, -, g6, c6, rfl, -⟩ := hv6
      simp only [Act.put, List.setIfInBounds_toArray, List.set_cons_succ, List.set_cons_zero, Nat.reduceAdd]
      refine wM_op _ rfl rfl (opens_call ?fb7 ?gb7 (fun w' hD => ?hb7) (fun w' hD => ?cb7)) (fun v7 hv7 => ?nb7)
      case hb7 => go_simp; constructor <;> rfl
      case cb7 =>
        obtain ⟨_, g, c7, e7, ho⟩ := hD.get 6 (by first | kernel_rfl | simp [Region.binds])
        cases e7
        refine (compact_next _ _ W0.heap.size x.st w' ho (by omega) HNX.out).mono ?_
        rintro e w2 ⟨rfl, hb⟩
        exact ⟨_, rfl, hb, _, _, rfl⟩
      obtain ⟨_, -, -, A7, c7, rfl⟩ := hv7
      simp only [Act.put, List.setIfInBounds_toArray, List.set_cons_succ, List.set_cons_zero, Nat.reduceAdd]
      refine wM_val ?ub8 rfl rfl Ext.refl (fun w' hD => ?hb8) (fun phb8 => ?nb8)
      case hb8 =>
        obtain ⟨d0, d1⟩ := FX.out w' hD.1
        go_simp; rfl
      simp only [Act.put, List.setIfInBounds_toArray, List.set_cons_succ, List.set_cons_zero, Nat.reduceAdd]
      refine wM_val ?ub9 rfl rfl Ext.refl (fun w' hD => ?hb9) (fun phb9 => ?nb9)
      case hb9 =>
        obtain ⟨d0, d1⟩ := FX.out w' hD.1
        go_simp; rfl
      simp only [Act.put, List.setIfInBounds_toArray, List.set_cons_succ, List.set_cons_zero, Nat.reduceAdd]
      refine wM_val ?ub10 rfl rfl Ext.refl (fun w' hD => ?hb10) (fun phb10 => ?nb10)
      case hb10 =>
        obtain ⟨d0, d1⟩ := FX.out w' hD.1
        go_simp; rfl
      simp only [Act.put, List.setIfInBounds_toArray, List.set_cons_succ, List.set_cons_zero, Nat.reduceAdd]
      refine wM_val ?ub11 rfl rfl Ext.refl (fun w' hD => ?hb11) (fun phb11 => ?nb11)
      case hb11 =>
        obtain ⟨d0, d1⟩ := FX.out w' hD.1
        go_simp; rfl
      simp only [Act.put, List.setIfInBounds_toArray, List.set_cons_succ, List.set_cons_zero, Nat.reduceAdd]
      refine wM_val ?ub12 rfl rfl Ext.refl (fun w' hD => ?hb12) (fun phb12 => ?nb12)
      case hb12 =>
        obtain ⟨d0, d1⟩ := FX.out w' hD.1
        go_simp; rfl
      simp only [Act.put, List.setIfInBounds_toArray, List.set_cons_succ, List.set_cons_zero, Nat.reduceAdd]
      refine wM_val ?ub13 rfl rfl Ext.refl (fun w' hD => ?hb13) (fun phb13 => ?nb13)
      case hb13 =>
        obtain ⟨d0, d1⟩ := FX.out w' hD.1
        go_simp; rfl
      simp only [Act.put, List.setIfInBounds_toArray, List.set_cons_succ, List.set_cons_zero, Nat.reduceAdd]
      refine wM_val ?ub14 rfl rfl Ext.refl (fun w' hD => ?hb14) (fun phb14 => ?nb14)
      case hb14 =>
        obtain ⟨d0, d1⟩ := FX.out w' hD.1
        go_simp; rfl
      simp only [Act.put, List.setIfInBounds_toArray, List.set_cons_succ, List.set_cons_zero, Nat.reduceAdd]
      refine wM_nil ?_
      intro w9 hw9 hF9
      go_wp2
      go_ret
      exact ⟨ret_of (bool_of HN.out.symm), hx0.trans hw9⟩
    · have HN : Hid (ascL x.st = false) := by
        unfold Hid
        rw [Bool.eq_false_iff]
        intro h
        exact hnx (HA.out.1 h).2
      obtain ⟨k0, -⟩ := FX.out W0 (Ext.refl _)
      go_region_with (first
        | (go_at_call 85; refine (issorted_any A c x.st _ ?_ ?_).mono ?_; exact hS.ext (Ext.drew hx0); omega; rw [HQ.out]; rintro e w2 ⟨rfl, hb2⟩; have k2 := hb2.cell (p := ⟨W.heap.size, 0, none⟩) k0)
        | (go_at_call 57; refine (clone_int A c x.st _ ?_ ?_).mono ?_; exact hS.ext ((Ext.drew hx0).trans hb2); omega; rintro e w3 ⟨A3, c3, rfl, ho3, hn3, hb3⟩; have k3 := hb3.cell (p := ⟨W.heap.size, 0, none⟩) k2; obtain ⟨g3, rfl⟩ := own_at ho3 (fun e => hAn (hn3.1 e)))
        | (go_at_call 86; refine (compact_not _ _ _ x.st _ ho3 ?_ hnx).mono ?_; omega; rintro e w4 ⟨A4, n4, c4, rfl, hn4, hb4⟩; have hs2 : W0.heap.size ≤ w2.heap.size := hb2.size; have hs3 := (ho3.lt g3 rfl).1; have k4 := hb4.cell (p := ⟨W.heap.size, 0, none⟩) k3 (show ¬ (W.heap.size = g3) by omega)))
      all_goals
        go_wp2
        go_ret
        exact ⟨ret_of (bool_of (by rw [HN.out]; simp; omega)), ((Ext.belS ((hx0.drew.trans hb2).trans hb3)).trans hb4).ext (fun k hk e => by have e : k = g3 := e; omega)⟩
end Go.Proofs.YtlonpgbapiemcaaGreat
