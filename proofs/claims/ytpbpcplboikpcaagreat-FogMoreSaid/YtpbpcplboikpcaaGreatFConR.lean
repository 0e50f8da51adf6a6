/- slices.Contains over reports. Printed by my gen_fconr.py. -/
import Derived.Test.YtpbpcplboikpcaaGreatFBesi
import Derived.Test.YtpbpcplboikpcaaGreatG5
import Derived.Laws.StructEq
namespace Go.Proofs.YtpbpcplboikpcaaGreat
open Go Go.RowKit Go.Shelf
set_option linter.unusedVariables false
set_option linter.unusedSimpArgs false

def eqR (p q : Rp) : Bool := p.bl == q.bl && p.hd == q.hd
def memR (p : Rp) (l : List Rp) : Bool := l.any (eqR p)
theorem run_eq_rp (w : World) (p q : Rp) : (Op.equalIn 10000 53 (.agg #[.int .i64 p.bl, .bool p.hd]) (.agg #[.int .i64 q.bl, .bool q.hd])).run Tryz.prog w = .ok (eqR p q) w := by
  have ht : Tryz.prog.underlying 53 = some (.struct (Tryz.prog.fieldsOf 53)) := by kernel_rfl
  have hp : Tryz.prog.stoodInHeld 53 = false := by kernel_rfl
  rw [run_equalIn_agg w _ _ _ _ ht hp]
  have hu := Tryz.underlying3
  have hu2 := Tryz.underlying4
  unfold eqR
  cases h : (p.bl == q.bl)
  · simp [Program.fieldsOf, Tryz.underlying53, Op.eqFields, go_sem, hu, hu2, h]
  · cases p.hd <;> cases q.hd <;> simp [Program.fieldsOf, Tryz.underlying53, Op.eqFields, go_sem, hu, hu2, h]
set_option maxRecDepth 100000 in
set_option maxHeartbeats 2000000 in
theorem indexR_any (A : Option Addr) (k0 : Nat) (l : List Rp) (p : Rp) (w : World) (hA : Reps w A l) (hl : l.length ≤ 9223372036854775807) :
    Calls Tryz.prog 164 #[.slice A l.length k0, .agg #[.int .i64 p.bl, .bool p.hd]] w fun e w' => e = .returned (.int .i64 (idxF (eqR p) l 0)) ∧ Ext w w' := by
  have HF : Hid (idxF (eqR p) l 0 = idxF (eqR p) (l.drop 0) 0) := rfl
  generalize hF : idxF (eqR p) l 0 = F at HF ⊢
  clear hF
  go_enter Tryz.func164, Tryz.ntmps164
  go_wp2
  have x0 := Ext.alloc (Ext.refl w) (.cells #[.int .i64 p.bl, .bool p.hd] 53)
  have k0' : (w.alloc (.cells #[.int .i64 p.bl, .bool p.hd] 53)).cell? ⟨w.heap.size, 0, none⟩ = some (.int .i64 p.bl) := by simp [go_sem]
  have k1' : (w.alloc (.cells #[.int .i64 p.bl, .bool p.hd] 53)).cell? ⟨w.heap.size, 1, none⟩ = some (.bool p.hd) := by simp [go_sem]
  generalize hWo : w.alloc (.cells #[.int .i64 p.bl, .bool p.hd] 53) = Wo at x0 k0' k1' ⊢
  clear hWo
  go_loopw [5, 8] (fun _ i wr => ∃ kk : Nat, kk ≤ l.length ∧ i = .int .i64 (kk : Int) ∧ Ext Wo wr ∧ Hid (F = idxF (eqR p) (l.drop kk) kk)) (fun _ i _ => l.length - (intOf i).toNat)
  case atStart => exact ⟨0, Nat.zero_le _, rfl, Ext.refl _, HF⟩
  case round =>
    obtain ⟨kk, hk, rfl, hx, HF⟩ := hrel
    by_cases hlt : kk < l.length
    · have hlt' : (kk : Int) < (l.length : Int) := by omega
      obtain ⟨q, hq⟩ := get_of_lt l kk hlt
      obtain ⟨b, off, rfl, c0, c1⟩ := Reps.at_ (hA.ext (x0.trans hx)) hq
      have HD := hid (idxF_drop (eqR p) l kk q hq)
      have r0 := hx.cell k0'
      have r1 := hx.cell k1'
      clear hq
      go_wp2
      have FX0 : ∀ w', Ext wr w' → w'.cell? ⟨w.heap.size, 0, none⟩ = some (.int .i64 p.bl) ∧ w'.cell? ⟨w.heap.size, 1, none⟩ = some (.bool p.hd) ∧ w'.cell? ⟨b, off + kk * 2, none⟩ = some (.int .i64 q.bl) ∧ w'.cell? ⟨b, off + kk * 2 + 1, none⟩ = some (.bool q.hd) :=
        fun w' h => ⟨h.cell r0, h.cell r1, h.cell c0, h.cell c1⟩
      have FX := hid FX0
      clear FX0 r0 r1 c0 c1
      refine wp_region_opens Ext (fun w' => Ext wr w') (fun _ => none) (by kernel_rfl) (by kernel_rfl) (fun _ _ h k => h.trans k) (fun i R hR => by cases hR) (Ext.drew (Ext.refl wr)) ?_
      refine wpM_val ?u0 rfl rfl Ext.refl (fun w' hD => ?h0) ?n0
      case h0 =>
        obtain ⟨d0, d1, d2, d3⟩ := FX.out w' hD.1
        go_simp; rfl
      simp only [Act.put, List.setIfInBounds_toArray, List.set_cons_succ, List.set_cons_zero, Nat.reduceAdd]
      refine wpM_val ?u1 rfl rfl Ext.refl (fun w' hD => ?h1) ?n1
      case h1 =>
        obtain ⟨d0, d1, d2, d3⟩ := FX.out w' hD.1
        go_simp; rfl
      simp only [Act.put, List.setIfInBounds_toArray, List.set_cons_succ, List.set_cons_zero, Nat.reduceAdd]
      refine wpM_val ?u2 rfl rfl Ext.refl (fun w' hD => ?h2) ?n2
      case h2 =>
        obtain ⟨d0, d1, d2, d3⟩ := FX.out w' hD.1
        go_simp; rfl
      simp only [Act.put, List.setIfInBounds_toArray, List.set_cons_succ, List.set_cons_zero, Nat.reduceAdd]
      refine wpM_val ?u3 rfl rfl Ext.refl (fun w' hD => ?h3) ?n3
      case h3 =>
        obtain ⟨d0, d1, d2, d3⟩ := FX.out w' hD.1
        go_simp; rfl
      simp only [Act.put, List.setIfInBounds_toArray, List.set_cons_succ, List.set_cons_zero, Nat.reduceAdd]
      refine wpM_val ?u4 rfl rfl Ext.refl (fun w' hD => ?h4) ?n4
      case h4 =>
        obtain ⟨d0, d1, d2, d3⟩ := FX.out w' hD.1
        go_simp; rfl
      simp only [Act.put, List.setIfInBounds_toArray, List.set_cons_succ, List.set_cons_zero, Nat.reduceAdd]
      refine wpM_val (.bool (eqR p q)) rfl rfl Ext.refl (fun w' hD => ?hc5) ?nc5
      case hc5 =>
        exact run_eql_op w' _ 53 53 (.tmp 11) (.tmp 15) rfl #[.int .i64 p.bl, .bool p.hd] #[.int .i64 q.bl, .bool q.hd] rfl rfl _ Tryz.eqGuardType53 (run_eq_rp w' p q)
      simp only [Act.put, List.setIfInBounds_toArray, List.set_cons_succ, List.set_cons_zero, Nat.reduceAdd]
      refine wpM_nil ?_
      intro w9 hw9 hF9
      have hx9 := hx.trans hw9
      clear hF9 FX
      by_cases hpq : eqR p q = true
      · have hb : eqR p q = true := hpq
        have HE : Hid (F = (kk : Int)) := by unfold Hid; rw [HF.out, HD.out, if_pos hb]
        rw [hb]
        clear hb hpq
        go_wp2
        go_ret
        exact ⟨ret_of (int_of HE.out.symm), x0.trans hx9⟩
      · have hb : eqR p q = false := by simpa using hpq
        have HE : Hid (F = idxF (eqR p) (l.drop (kk + 1)) (kk + 1)) := by unfold Hid; rw [HF.out, HD.out, if_neg (by rw [hb]; simp)]
        rw [hb]
        clear hb hpq
        go_wp2
        go_roundw
        case rel => exact ⟨kk + 1, by omega, by go_num, hx9, HE⟩
        case measure => simp [intOf]; omega
    · have hlt' : ¬ (kk : Int) < (l.length : Int) := by omega
      have HE : Hid (F = -1) := by unfold Hid; rw [HF.out, idxF_end _ _ _ (by omega)]
      go_wp2
      go_ret
      exact ⟨ret_of (int_of HE.out.symm), x0.trans hx⟩
theorem containsR_any (A : Option Addr) (k0 : Nat) (l : List Rp) (p : Rp) (w : World) (hA : Reps w A l) (hl : l.length ≤ 9223372036854775807) :
    Calls Tryz.prog 80 #[.slice A l.length k0, .agg #[.int .i64 p.bl, .bool p.hd]] w fun e w' => e = .returned (.bool (memR p l)) ∧ Ext w w' := by
  have HM := hid (idxF_nonneg (eqR p) l 0)
  go_enter Tryz.func80, Tryz.ntmps80
  go_wp2_with fail
  have x0 := Ext.alloc (Ext.refl w) (.cells #[.int .i64 p.bl, .bool p.hd] 53)
  refine (indexR_any A k0 l p _ (hA.ext x0) hl).mono ?_
  rintro e w1 ⟨rfl, hb⟩
  go_wp2
  go_ret
  exact ⟨ret_of (bool_of HM.out), x0.trans hb⟩

end Go.Proofs.YtpbpcplboikpcaaGreat
