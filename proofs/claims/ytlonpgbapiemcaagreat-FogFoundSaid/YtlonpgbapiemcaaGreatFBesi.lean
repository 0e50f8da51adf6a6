/- Whether a list of pairs holds one (slices.Contains at tracks), and the law's beside: whether a track joins two places. Printed by hand out of XPair. -/
import Derived.Test.YtlonpgbapiemcaaGreatG4
import Derived.Test.YtlonpgbapiemcaaGreatFMadeP
namespace Go.Proofs.YtlonpgbapiemcaaGreat
open Go Go.RowKit Go.Shelf
set_option linter.unusedVariables false
set_option linter.unusedSimpArgs false

def memP (p : Int × Int) (l : List (Int × Int)) : Bool := l.any fun q => p == q
theorem pair_beq (p q : Int × Int) : ([p.1, p.2] == [q.1, q.2]) = (p == q) := by
  obtain ⟨a, b⟩ := p
  obtain ⟨c, d⟩ := q
  show ((a == c) && ((b == d) && true)) = ((a == c) && (b == d))
  rw [Bool.and_true]
theorem besideL_mem (l : List (Int × Int)) (a b : Int) : besideL l a b = (memP (a, b) l || memP (b, a) l) := by
  unfold besideL memP
  rw [Bool.eq_iff_iff]
  simp only [List.any_eq_true, Bool.or_eq_true, Bool.and_eq_true, beq_iff_eq]
  constructor
  · rintro ⟨⟨x, y⟩, ht, ⟨rfl, rfl⟩ | ⟨rfl, rfl⟩⟩
    · exact .inl ⟨_, ht, rfl⟩
    · exact .inr ⟨_, ht, rfl⟩
  · rintro (⟨t, ht, rfl⟩ | ⟨t, ht, rfl⟩)
    · exact ⟨_, ht, .inl ⟨rfl, rfl⟩⟩
    · exact ⟨_, ht, .inr ⟨rfl, rfl⟩⟩
set_option maxRecDepth 100000 in
set_option maxHeartbeats 2000000 in
theorem indexP_any (A : Option Addr) (k0 : Nat) (l : List (Int × Int)) (p : Int × Int) (w : World) (hA : Prs w A l) (hl : l.length ≤ 9223372036854775807) :
    Calls Tryz.prog 101 #[.slice A l.length k0, .agg #[.int .i64 p.1, .int .i64 p.2]] w fun e w' => e = .returned (.int .i64 (idxF (fun q => p == q) l 0)) ∧ Ext w w' := by
  have HF : Hid (idxF (fun q => p == q) l 0 = idxF (fun q => p == q) (l.drop 0) 0) := rfl
  generalize hF : idxF (fun q => p == q) l 0 = F at HF ⊢
  clear hF
  go_enter Tryz.func101, Tryz.ntmps101
  go_wp2
  have x0 := Ext.alloc (Ext.refl w) (.cells #[.int .i64 p.1, .int .i64 p.2] 78)
  have k0' : (w.alloc (.cells #[.int .i64 p.1, .int .i64 p.2] 78)).cell? ⟨w.heap.size, 0, none⟩ = some (.int .i64 p.1) := by simp [go_sem]
  have k1' : (w.alloc (.cells #[.int .i64 p.1, .int .i64 p.2] 78)).cell? ⟨w.heap.size, 1, none⟩ = some (.int .i64 p.2) := by simp [go_sem]
  generalize hWo : w.alloc (.cells #[.int .i64 p.1, .int .i64 p.2] 78) = Wo at x0 k0' k1' ⊢
  clear hWo
  go_loopw [5, 8] (fun _ i wr => ∃ kk : Nat, kk ≤ l.length ∧ i = .int .i64 (kk : Int) ∧ Ext Wo wr ∧ Hid (F = idxF (fun q => p == q) (l.drop kk) kk)) (fun _ i _ => l.length - (intOf i).toNat)
  case atStart => exact ⟨0, Nat.zero_le _, rfl, Ext.refl _, HF⟩
  case round =>
    obtain ⟨kk, hk, rfl, hx, HF⟩ := hrel
    by_cases hlt : kk < l.length
    · have hlt' : (kk : Int) < (l.length : Int) := by omega
      obtain ⟨q, hq⟩ := get_of_lt l kk hlt
      obtain ⟨b, off, rfl, c0, c1⟩ := Prs.at_ (hA.ext (x0.trans hx)) hq
      have HD := hid (idxF_drop (fun q => p == q) l kk q hq)
      have r0 := hx.cell k0'
      have r1 := hx.cell k1'
      clear hq
      go_wp2
      have FX0 : ∀ w', Ext wr w' → w'.cell? ⟨w.heap.size, 0, none⟩ = some (.int .i64 p.1) ∧ w'.cell? ⟨w.heap.size, 1, none⟩ = some (.int .i64 p.2) ∧ w'.cell? ⟨b, off + kk * 2, none⟩ = some (.int .i64 q.1) ∧ w'.cell? ⟨b, off + kk * 2 + 1, none⟩ = some (.int .i64 q.2) :=
        fun w' h => ⟨h.cell r0, h.cell r1, h.cell c0, h.cell c1⟩
      have FX := hid FX0
      clear FX0 r0 r1 c0 c1
      refine wp_region_opens Ext (fun w' => Ext wr w') (fun _ => none) (by kernel_rfl) (by kernel_rfl) (fun _ _ h k => h.trans k) (fun i R hR => by cases hR) (Ext.drew (Ext.refl wr)) ?_
      refine wpM_val ?u0 rfl rfl Ext.refl (fun w' hD => ?h0) ?n0
      case h0 =>
        obtain ⟨d0, d1, d2, d3⟩ := FX.out w' hD.1
        go_simp; rfl
      simp only [Act.put, List.setIfInBounds_toArray, List.set_cons_succ, List.set_cons_zero, Nat.reduceAdd]
      refine wpM_val ?u1 rfl rfl Ext.refl (fun w' hD => ?h1) ?n1
      case h1 =>
        obtain ⟨d0, d1, d2, d3⟩ := FX.out w' hD.1
        go_simp; rfl
      simp only [Act.put, List.setIfInBounds_toArray, List.set_cons_succ, List.set_cons_zero, Nat.reduceAdd]
      refine wpM_val ?u2 rfl rfl Ext.refl (fun w' hD => ?h2) ?n2
      case h2 =>
        obtain ⟨d0, d1, d2, d3⟩ := FX.out w' hD.1
        go_simp; rfl
      simp only [Act.put, List.setIfInBounds_toArray, List.set_cons_succ, List.set_cons_zero, Nat.reduceAdd]
      refine wpM_val ?u3 rfl rfl Ext.refl (fun w' hD => ?h3) ?n3
      case h3 =>
        obtain ⟨d0, d1, d2, d3⟩ := FX.out w' hD.1
        go_simp; rfl
      simp only [Act.put, List.setIfInBounds_toArray, List.set_cons_succ, List.set_cons_zero, Nat.reduceAdd]
      refine wpM_val ?u4 rfl rfl Ext.refl (fun w' hD => ?h4) ?n4
      case h4 =>
        obtain ⟨d0, d1, d2, d3⟩ := FX.out w' hD.1
        go_simp; rfl
      simp only [Act.put, List.setIfInBounds_toArray, List.set_cons_succ, List.set_cons_zero, Nat.reduceAdd]
      refine wpM_val (.bool ([p.1, p.2] == [q.1, q.2])) rfl rfl Ext.refl (fun w' hD => ?hc5) ?nc5
      case hc5 =>
        refine run_eql_op w' _ 78 78 (.tmp 11) (.tmp 15) ?_ #[.int .i64 p.1, .int .i64 p.2] #[.int .i64 q.1, .int .i64 q.2] ?_ ?_ _ Tryz.eqGuardType78 (run_equalIn_arr1 w' 9998 78 3 .i64 2 Tryz.underlying78 Tryz.underlying3 (by kernel_rfl) (by kernel_rfl) [p.1, p.2] [q.1, q.2] rfl rfl)
        · rfl
        · rfl
        · rfl
      simp only [Act.put, List.setIfInBounds_toArray, List.set_cons_succ, List.set_cons_zero, Nat.reduceAdd]
      refine wpM_nil ?_
      intro w9 hw9 hF9
      rw [pair_beq]
      have hx9 := hx.trans hw9
      clear hF9 FX
      by_cases hpq : p = q
      · have hb : (p == q) = true := by simpa using hpq
        have HE : Hid (F = (kk : Int)) := by unfold Hid; rw [HF.out, HD.out, if_pos hb]
        rw [hb]
        clear hb hpq
        go_wp2
        go_ret
        exact ⟨ret_of (int_of HE.out.symm), x0.trans hx9⟩
      · have hb : (p == q) = false := by simpa using hpq
        have HE : Hid (F = idxF (fun q => p == q) (l.drop (kk + 1)) (kk + 1)) := by unfold Hid; rw [HF.out, HD.out, if_neg (by rw [hb]; simp)]
        rw [hb]
        clear hb hpq
        go_wp2
        go_roundw
        case rel => exact ⟨kk + 1, by omega, by go_num, hx9, HE⟩
        case measure => simp [intOf]; omega
    · have hlt' : ¬ (kk : Int) < (l.length : Int) := by omega
      have HE : Hid (F = -1) := by unfold Hid; rw [HF.out, idxF_end _ _ _ (by omega)]
      go_wp2
      go_ret
      exact ⟨ret_of (int_of HE.out.symm), x0.trans hx⟩
theorem containsP_any (A : Option Addr) (k0 : Nat) (l : List (Int × Int)) (p : Int × Int) (w : World) (hA : Prs w A l) (hl : l.length ≤ 9223372036854775807) :
    Calls Tryz.prog 29 #[.slice A l.length k0, .agg #[.int .i64 p.1, .int .i64 p.2]] w fun e w' => e = .returned (.bool (memP p l)) ∧ Ext w w' := by
  have HM := hid (idxF_nonneg (fun q => p == q) l 0)
  go_enter Tryz.func29, Tryz.ntmps29
  go_wp2_with fail
  have x0 := Ext.alloc (Ext.refl w) (.cells #[.int .i64 p.1, .int .i64 p.2] 78)
  refine (indexP_any A k0 l p _ (hA.ext x0) hl).mono ?_
  rintro e w1 ⟨rfl, hb⟩
  go_wp2
  go_ret
  exact ⟨ret_of (bool_of HM.out), x0.trans hb⟩

set_option maxRecDepth 100000 in
set_option maxHeartbeats 2000000 in
theorem lbeside_any (v : Value) (f : Fg) (a b : Int) (w : World) (hf : FgR w v f) (hl : f.tr.length ≤ 1000) :
    Calls Tryz.prog 24 #[v, .int .i64 a, .int .i64 b] w fun e w' => e = .returned (.bool (besideL f.tr a b)) ∧ Ext w w' := by
  obtain ⟨s, rfl, hr⟩ := hf.rows
  rw [besideL_mem]
  obtain ⟨W0, hW0⟩ : ∃ W0, w.alloc (.cells #[.int .i64 f.pl, .int .i64 f.mi, .slice s.a1 f.tr.length s.c1, .slice s.a2 f.bl.length s.c2, .slice s.a3 f.ct.length s.c3] 29) = W0 := ⟨_, rfl⟩
  have hx0 : Ext w W0 := by rw [← hW0]; exact Ext.alloc (Ext.refl w) _
  have FX : Hid (∀ w', Ext W0 w' → w'.cell? ⟨w.heap.size, 2, none⟩ = some (.slice s.a1 f.tr.length s.c1)) := fun w' h => h.cell (by rw [← hW0]; simp [go_sem])
  have q2 := FX.out W0 (Ext.refl _)
  have HT : Hid (∀ w', Ext W0 w' → Prs w' s.a1 f.tr) := fun w' h => (hr.ext (hx0.trans h)).tr
  unfold Ads.val fval
  clear hr hf
  go_enter Tryz.func24, Tryz.ntmps24
  go_wp2_with fail
  try rw [hW0]
  clear hW0
  refine (containsP_any s.a1 s.c1 f.tr (a, b) W0 (HT.out W0 (Ext.refl _)) (by omega)).mono ?_
  rintro e w1 ⟨rfl, h1⟩
  have q3 := FX.out w1 h1
  clear q2
  obtain ⟨M1, hM1⟩ : ∃ M1, memP (a, b) f.tr = M1 := ⟨_, rfl⟩
  have HM1 := hid hM1
  rw [hM1]
  clear hM1
  cases M1
  case true =>
    go_wp2
    go_ret
    exact ⟨by rw [HM1.out]; rfl, hx0.trans h1⟩
  go_wp2_with fail
  refine (containsP_any s.a1 s.c1 f.tr (b, a) w1 (HT.out w1 h1) (by omega)).mono ?_
  rintro e w2 ⟨rfl, h2⟩
  go_wp2
  go_ret
  exact ⟨by rw [HM1.out, Bool.false_or]; rfl, (hx0.trans h1).trans h2⟩
end Go.Proofs.YtlonpgbapiemcaaGreat
