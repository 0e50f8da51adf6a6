/- The walk of FogWalks: the law says true of every fog. Printed by my gen_fwalks.py. -/
import Derived.Test.YtpbpcplboikpcaaGreatG7
import Derived.Test.YtpbpcplboikpcaaGreatG6
import Derived.Test.YtpbpcplboikpcaaGreatG5
import Derived.Test.YtpbpcplboikpcaaGreatFWalk
import Derived.Test.YtpbpcplboikpcaaGreatFRef15
import Derived.Test.YtpbpcplboikpcaaGreatG9
import Derived.Test.YtpbpcplboikpcaaGreatFChW
import Derived.Laws.StructEq
import Derived.Deep.DeepCutAuto
import Derived.Deep.CutBlock
namespace Go.Proofs.YtpbpcplboikpcaaGreat
open Go Go.RowKit Go.Shelf
set_option linter.unusedVariables false
set_option linter.unusedSimpArgs false

theorem cartW_bad {f : Fg} {T k : Int} (h : checkF f = T) (hT : T ≠ 0) : cartE f k = T := by unfold cartE; rw [h, if_neg hT]
theorem cartW_in {f : Fg} {k : Int} (h : checkF f = 0) : cartE f k = cartX f k := by unfold cartE; rw [if_pos h]; rfl
theorem can_goes {f : Fg} {c : Ct} {m p : Nat} : ∀ (d : Nat), m + d ≤ f.mi.toNat → p ∈ canN (farM f) f c m → ∃ q, q ∈ canN (farM f) f c (m + d)
  | 0, _, hp => ⟨p, hp⟩
  | d + 1, hd, hp => by
    obtain ⟨q, hq⟩ := can_goes d (by omega) hp
    obtain ⟨q2, hq2, -⟩ := can_on (show m + d + 1 ≤ f.mi.toNat by omega) hq
    exact ⟨q2, hq2⟩
theorem can_lost {f : Fg} (h : FogOK f) {c : Ct} (hc : c ∈ f.ct) {m p : Nat} (hm : m ≤ f.mi.toNat) (hp : p ∈ canN (farM f) f c m) : lostF (farM f) f c = false := by
  obtain ⟨q, hq⟩ := can_goes (f.mi.toNat - m) (by omega) hp
  rw [show m + (f.mi.toNat - m) = f.mi.toNat by omega] at hq
  obtain ⟨h1, h2, -⟩ := (can_mem (Nat.le_refl _)).1 hq
  unfold lostF
  rw [count_come h hc]
  have h3 := (sumN_pos (n := f.pl.toNat) (h := comeM (farM f) f c allF f.mi.toNat) (fun k _ => come_nonneg _ _)).2 ⟨q, h1, h2⟩
  simp; omega
theorem walk_err {f : Fg} {k : Int} (hc : cartE f k = 0) {m : Nat} {p : Int} (hm : miOK f (m : Int) = true) (hp : plOK f p = true) : walkE f k (m : Int) p = if memI p (natI (canN (farM f) f (ctAt f k) m)) then 0 else 6 := by
  obtain ⟨hce, hk0, hk1⟩ := cartE_ok hc
  have hcm : ctAt f k ∈ f.ct := by
    obtain ⟨c, hcg⟩ := get_of_lt f.ct k.toNat (by omega)
    have e : ctAt f k = c := by unfold ctAt; rw [List.getD_eq_getElem?_getD, hcg]; rfl
    rw [e]; exact mem_of_get hcg
  have hok := checkF_ok hce
  unfold walkE
  rw [if_neg (fun h => h hc), if_pos hm, if_pos hp, Int.toNat_natCast]
  cases hb : memI p (natI (canN (farM f) f (ctAt f k) m))
  · simp
  · obtain ⟨z, hz, -⟩ := List.mem_map.1 (mem_memI.1 hb)
    have hl := can_lost hok hcm (by have := inB_iff.1 hm; omega) hz
    rw [if_pos ⟨hl, rfl⟩, if_pos rfl]

set_option maxRecDepth 100000 in
set_option maxHeartbeats 16000000 in
theorem walksw_any (v : Value) (f : Fg) (k m p : Int) (AC : Option Addr) (kC : Nat) (l : List Int) (w : World) (hf : FgR w v f) (hl : f.ct.length ≤ 9223372036854775807) (hLI : Ints w AC l) (hcl : l.length ≤ 9223372036854775807) :
    Calls Tryz.prog 6 #[v, .int .i64 k, .int .i64 m, .int .i64 p, .slice AC l.length kC] w fun e w' => e = .returned (.bool true) ∧ Ext w w' := by
  obtain ⟨s, rfl, hr⟩ := hf.rows
  obtain ⟨W0, hW0⟩ : ∃ W0, w.alloc (.cells #[.int .i64 f.pl, .int .i64 f.mi, .slice s.a1 f.tr.length s.c1, .slice s.a2 f.bl.length s.c2, .slice s.a3 f.ct.length s.c3] 28) = W0 := ⟨_, rfl⟩
  have hx0 : Ext w W0 := by rw [← hW0]; exact Ext.alloc (Ext.refl w) _
  have FX : Hid (∀ w', Ext W0 w' → w'.cell? ⟨w.heap.size, 0, none⟩ = some (.int .i64 f.pl) ∧ w'.cell? ⟨w.heap.size, 1, none⟩ = some (.int .i64 f.mi) ∧ w'.cell? ⟨w.heap.size, 2, none⟩ = some (.slice s.a1 f.tr.length s.c1) ∧ w'.cell? ⟨w.heap.size, 3, none⟩ = some (.slice s.a2 f.bl.length s.c2) ∧ w'.cell? ⟨w.heap.size, 4, none⟩ = some (.slice s.a3 f.ct.length s.c3)) := fun w' h => ⟨h.cell (by rw [← hW0]; simp [go_sem]), h.cell (by rw [← hW0]; simp [go_sem]), h.cell (by rw [← hW0]; simp [go_sem]), h.cell (by rw [← hW0]; simp [go_sem]), h.cell (by rw [← hW0]; simp [go_sem])⟩
  obtain ⟨q0, q1, q2, q3, q4⟩ := FX.out W0 (Ext.refl _)
  have K1 := great_any (s.val f) f W0 (hf.ext hx0) hl
  obtain ⟨GR, hGR⟩ : ∃ GR, greatF f = GR := ⟨_, rfl⟩
  rw [hGR] at K1
  have HGR := hid hGR
  have HF0 := hid hf
  clear hf
  unfold Ads.val fval
  unfold Ads.val fval at K1
  have HCH0 := hid hLI
  clear hLI
  go_enter Tryz.func6, Tryz.ntmps6
  go_wp2_with fail
  try rw [hW0]
  clear hW0 q0 q1 q2 q3 q4
  refine K1.mono ?_
  clear K1
  rintro e w1 ⟨rfl, hb1⟩
  have hx1 := hx0.trans hb1
  clear hGR
  cases GR
  case true =>
    go_wp2_with fail
    refine (awake_any w1).mono ?_
    rintro e w2 ⟨rfl, hb2⟩
    go_wp2
    go_ret
    exact ⟨rfl, hx1.trans hb2⟩
  by_cases hc14 : (14 : Int) < (l.length : Int)
  · go_wp2_with fail
    refine (awake_any w1).mono ?_
    rintro e w2 ⟨rfl, hb2⟩
    go_wp2
    go_ret
    exact ⟨rfl, hx1.trans hb2⟩
  have hch14 : l.length ≤ 14 := by omega
  have HCP : Hid (∀ w', Ext w1 w' → Ints w' AC l) := fun w' h => HCH0.out.ext (hx1.trans h)
  have HS := hid (great_sized HGR.out)
  have HF : Hid (∀ w', Ext w1 w' → FgR w' (.agg #[.int .i64 f.pl, .int .i64 f.mi, .slice s.a1 f.tr.length s.c1, .slice s.a2 f.bl.length s.c2, .slice s.a3 f.ct.length s.c3]) f) := fun w' h => HF0.out.ext (hx1.trans h)
  clear HGR hl hr HF0
  go_wp2
  refine wp_region_shut_tail Ext (fun w' => Ext w1 w') (fun
    | 1 => some (fun v w' => OwnV w' f v)
    | 3 => some (fun v w' => TheirsV w' f v)
    | 6 => some (fun v w' => ∃ B, v = .pointer (some ⟨B, 0, none⟩) ∧ w1.heap.size ≤ B ∧ w'.heap[B]? = some (.cells #[.int .i64 0, .int .i64 0, .slice none 0 0, .slice none 0 0, .slice none 0 0] 28 (0, 0)))
    | 7 => some (fun v w' => ∃ B, v = .pointer (some ⟨B, 0, none⟩) ∧ w1.heap.size ≤ B ∧ w'.heap[B]? = some (.cells #[.int .i64 0, .int .i64 0, .slice none 0 0, .slice none 0 0, .slice none 0 0, .slice none 0 0] 37 (0, 0)))
    | 5 => some (fun v w' => ∃ g c', v = .slice (some ⟨g, 0, none⟩) l.length c' ∧ ∃ B, w'.ownsRow B 3 1 (.slice (some ⟨g, 0, none⟩) l.length c') l.length (l.map (.int .i64)))
    | _ => none) 8 (by kernel_rfl) (by kernel_rfl) (fun _ _ h k => h.trans k) ?hT (Ext.drew (Ext.refl w1)) ?_
  case hT =>
    intro i R hR
    match i, hR with
    | 1, hR => cases hR; exact fun _ _ _ h k => h.ext k
    | 3, hR => cases hR; exact fun _ _ _ h k => h.ext k
    | 6, hR => cases hR; exact fun _ _ _ ⟨B, e, h1, h⟩ k => ⟨B, e, h1, (Below.block k B (Array.getElem?_eq_some_iff.1 h).1).trans h⟩
    | 7, hR => cases hR; exact fun _ _ _ ⟨B, e, h1, h⟩ k => ⟨B, e, h1, (Below.block k B (Array.getElem?_eq_some_iff.1 h).1).trans h⟩
    | 5, hR => cases hR; exact fun _ _ _ ⟨g, c', e, B, h⟩ k => ⟨g, c', e, B, own_below h k⟩
  refine wM_val ?ua0 rfl rfl Ext.refl (fun w' hD => ?ha0) (fun pha0 => ?na0)
  case ha0 =>
    obtain ⟨d0, d1, d2, d3, d4⟩ := FX.out _ (hb1.trans hD.1)
    go_simp; rfl
  simp only [Act.put, List.setIfInBounds_toArray, List.set_cons_succ, List.set_cons_zero, Nat.reduceAdd]
  refine wM_op _ rfl rfl (opens_call ?fa1 ?ga1 (fun w' hD => ?ha1) (fun w' hD => ?ca1)) (fun v1 hv1 => ?na1)
  case ha1 => go_simp; constructor <;> rfl
  case ca1 =>
    refine (own_any _ f w' (HF.out w' hD.1) HS.out).mono ?_
    rintro e w2 ⟨v, rfl, hb, ho⟩
    exact ⟨_, rfl, hb, own_cells ho⟩
  obtain ⟨_, -, -, g1, k1, g2, k2, D3, k3, rfl, -⟩ := hv1
  simp only [Act.put, List.setIfInBounds_toArray, List.set_cons_succ, List.set_cons_zero, Nat.reduceAdd]
  refine wM_val ?ua2 rfl rfl Ext.refl (fun w' hD => ?ha2) (fun pha2 => ?na2)
  case ha2 =>
    obtain ⟨d0, d1, d2, d3, d4⟩ := FX.out _ (hb1.trans hD.1)
    go_simp; rfl
  simp only [Act.put, List.setIfInBounds_toArray, List.set_cons_succ, List.set_cons_zero, Nat.reduceAdd]
  refine wM_op _ rfl rfl (opens_call ?fa3 ?ga3 (fun w' hD => ?ha3) (fun w' hD => ?ca3)) (fun v3 hv3 => ?na3)
  case ha3 => go_simp; constructor <;> rfl
  case ca3 =>
    refine (theirs_any _ f w' (HF.out w' hD.1) HS.out).mono ?_
    rintro e w2 ⟨v, d, rfl, hb, ho, hd⟩
    exact ⟨_, rfl, hb, theirs_cells ho hd⟩
  obtain ⟨_, -, -, a5, q5, b5, r5, c5, t5, A5, n5, k5, rfl, -⟩ := hv3
  simp only [Act.put, List.setIfInBounds_toArray, List.set_cons_succ, List.set_cons_zero, Nat.reduceAdd]
  refine wM_val ?ua4 rfl rfl Ext.refl (fun w' hD => ?ha4) (fun pha4 => ?na4)
  case ha4 =>
    obtain ⟨d0, d1, d2, d3, d4⟩ := FX.out _ (hb1.trans hD.1)
    go_simp; rfl
  simp only [Act.put, List.setIfInBounds_toArray, List.set_cons_succ, List.set_cons_zero, Nat.reduceAdd]
  refine wM_op _ rfl rfl (opens_call ?fa5 ?ga5 (fun w' hD => ?ha5) (fun w' hD => ?ca5)) (fun v5 hv5 => ?na5)
  case ha5 => go_simp; constructor <;> rfl
  case ca5 =>
    refine (dup_int AC kC l w' (HCP.out w' hD.1) (by omega)).mono ?_
    rintro e w2 ⟨g, c', rfl, ho, hb⟩
    exact ⟨_, rfl, hb, g, c', rfl, _, ho⟩
  obtain ⟨_, -, -, gd, kd, rfl, -⟩ := hv5
  simp only [Act.put, List.setIfInBounds_toArray, List.set_cons_succ, List.set_cons_zero, Nat.reduceAdd]
  refine wM_op _ rfl rfl (opens_val (fun w' hD => ?hm6)) (fun va6 hva6 => ?nm6)
  case hm6 =>
    refine ⟨.pointer (some ⟨w'.heap.size, 0, none⟩), w'.alloc (.cells #[.int .i64 0, .int .i64 0, .slice none 0 0, .slice none 0 0, .slice none 0 0] 28), ?_, Ext.alloc (Ext.refl _) _, w'.heap.size, rfl, hD.1.size, World.alloc_heap_new _ _⟩
    go_simp
  obtain ⟨_, -, -, Ba, rfl, -⟩ := hva6
  simp only [Act.put, List.setIfInBounds_toArray, List.set_cons_succ, List.set_cons_zero, Nat.reduceAdd]
  refine wM_op _ rfl rfl (opens_val (fun w' hD => ?hm7)) (fun va7 hva7 => ?nm7)
  case hm7 =>
    refine ⟨.pointer (some ⟨w'.heap.size, 0, none⟩), w'.alloc (.cells #[.int .i64 0, .int .i64 0, .slice none 0 0, .slice none 0 0, .slice none 0 0, .slice none 0 0] 37), ?_, Ext.alloc (Ext.refl _) _, w'.heap.size, rfl, hD.1.size, World.alloc_heap_new _ _⟩
    go_simp
  obtain ⟨_, -, -, Bb, rfl, -⟩ := hva7
  simp only [Act.put, List.setIfInBounds_toArray, List.set_cons_succ, List.set_cons_zero, Nat.reduceAdd]
  refine wM_nil ?_
  intro w9 hw9 hF9
  obtain ⟨-, g1', k1', g2', k2', D3', k3', e1, ho1⟩ := hF9 1
  cases e1
  obtain ⟨-, a5', q5', b5', r5', c5', t5', A5', n5', k5', e5, d, ho5, hd5⟩ := hF9 3
  cases e5
  obtain ⟨-, gd', kd', ed, Bd, hod⟩ := hF9 5
  cases ed
  obtain ⟨-, Ba', e6, hBa, GA⟩ := hF9 6
  cases e6
  obtain ⟨-, Bb', e7, hBb, GB⟩ := hF9 7
  cases e7
  clear hF9
  have hab : Ba ≠ Bb := fun e => by
    rw [e, GB] at GA
    injection GA with e1
    injection e1 with _ e2 _
    exact absurd e2 (by decide)
  have hba : Bb ≠ Ba := fun e => hab e.symm
  have hFB : FogB w9 (fun n => n = Ba ∨ n = Bb) := fun n hn => by
    rcases hn with e | e
    · exact ⟨_, _, by rw [e]; exact GA, by decide, by decide, by decide, by decide, by decide⟩
    · exact ⟨_, _, by rw [e]; exact GB, by decide, by decide, by decide, by decide, by decide⟩
  have hRB : RefB w9 (fun n => n = Ba ∨ n = Bb) := fun n hn => by
    rcases hn with e | e
    · exact ⟨_, _, by rw [e]; exact GA, by decide, by decide, by decide, by decide, by decide, by decide⟩
    · exact ⟨_, _, by rw [e]; exact GB, by decide, by decide, by decide, by decide, by decide, by decide⟩
  obtain ⟨Wn, hWn⟩ : ∃ Wn, (((((((((((w9.setCell ⟨Ba, 0, none⟩ (.int .i64 f.pl)).setCell ⟨Ba, 1, none⟩ (.int .i64 f.mi)).setCell ⟨Ba, 2, none⟩ (.slice (some ⟨g1, 0, none⟩) f.tr.length k1)).setCell ⟨Ba, 3, none⟩ (.slice (some ⟨g2, 0, none⟩) f.bl.length k2)).setCell ⟨Ba, 4, none⟩ (.slice D3 f.ct.length k3)).setCell ⟨Bb, 0, none⟩ (.int .i64 f.pl)).setCell ⟨Bb, 1, none⟩ (.int .i64 f.mi)).setCell ⟨Bb, 2, none⟩ (.slice a5 f.tr.length q5)).setCell ⟨Bb, 3, none⟩ (.slice b5 f.bl.length r5)).setCell ⟨Bb, 4, none⟩ (.slice c5 f.ct.length t5)).setCell ⟨Bb, 5, none⟩ (.slice A5 n5 k5)) = Wn := ⟨_, rfl⟩
  have hbn : BelS (fun n => n = Ba ∨ n = Bb) w9 Wn := by
    rw [← hWn]
    exact ((((((((((((BelS.refl _ w9).setCell (S := fun n => n = Ba ∨ n = Bb) ⟨Ba, 0, none⟩ _ (.inl rfl)).setCell (S := fun n => n = Ba ∨ n = Bb) ⟨Ba, 1, none⟩ _ (.inl rfl)).setCell (S := fun n => n = Ba ∨ n = Bb) ⟨Ba, 2, none⟩ _ (.inl rfl)).setCell (S := fun n => n = Ba ∨ n = Bb) ⟨Ba, 3, none⟩ _ (.inl rfl)).setCell (S := fun n => n = Ba ∨ n = Bb) ⟨Ba, 4, none⟩ _ (.inl rfl)).setCell (S := fun n => n = Ba ∨ n = Bb) ⟨Bb, 0, none⟩ _ (.inr rfl)).setCell (S := fun n => n = Ba ∨ n = Bb) ⟨Bb, 1, none⟩ _ (.inr rfl)).setCell (S := fun n => n = Ba ∨ n = Bb) ⟨Bb, 2, none⟩ _ (.inr rfl)).setCell (S := fun n => n = Ba ∨ n = Bb) ⟨Bb, 3, none⟩ _ (.inr rfl)).setCell (S := fun n => n = Ba ∨ n = Bb) ⟨Bb, 4, none⟩ _ (.inr rfl)).setCell (S := fun n => n = Ba ∨ n = Bb) ⟨Bb, 5, none⟩ _ (.inr rfl))
  have hx0n : Ext W0 Wn := by
    have h1 : W0.heap.size ≤ Ba := Nat.le_trans hb1.size hBa
    have h2 : W0.heap.size ≤ Bb := Nat.le_trans hb1.size hBb
    rw [← hWn]
    exact ((((((((((((hb1.trans hw9).setCell (by simpa using h1) _).setCell (by simpa using h1) _).setCell (by simpa using h1) _).setCell (by simpa using h1) _).setCell (by simpa using h1) _).setCell (by simpa using h2) _).setCell (by simpa using h2) _).setCell (by simpa using h2) _).setCell (by simpa using h2) _).setCell (by simpa using h2) _).setCell (by simpa using h2) _)
  have hx1n : Ext w1 Wn := by
    rw [← hWn]
    exact (((((((((((hw9.setCell (by simpa using hBa) _).setCell (by simpa using hBa) _).setCell (by simpa using hBa) _).setCell (by simpa using hBa) _).setCell (by simpa using hBa) _).setCell (by simpa using hBb) _).setCell (by simpa using hBb) _).setCell (by simpa using hBb) _).setCell (by simpa using hBb) _).setCell (by simpa using hBb) _).setCell (by simpa using hBb) _)
  have p0 := block_cell (i := 0) GA
  have f0 := blk_free (i := 0) GA
  have p1 := block_cell (i := 1) GA
  have f1 := blk_free (i := 1) GA
  have p2 := block_cell (i := 2) GA
  have f2 := blk_free (i := 2) GA
  have p3 := block_cell (i := 3) GA
  have f3 := blk_free (i := 3) GA
  have p4 := block_cell (i := 4) GA
  have f4 := blk_free (i := 4) GA
  have u0 := block_cell (i := 0) GB
  have v0 := blk_free (i := 0) GB
  have u1 := block_cell (i := 1) GB
  have v1 := blk_free (i := 1) GB
  have u2 := block_cell (i := 2) GB
  have v2 := blk_free (i := 2) GB
  have u3 := block_cell (i := 3) GB
  have v3 := blk_free (i := 3) GB
  have u4 := block_cell (i := 4) GB
  have v4 := blk_free (i := 4) GB
  have u5 := block_cell (i := 5) GB
  have v5 := blk_free (i := 5) GB
  simp only [List.getElem?_toArray, List.getElem?_cons_zero, List.getElem?_cons_succ] at p0 p1 p2 p3 p4 u0 u1 u2 u3 u4 u5
  have FN : Hid ((Wn.cell? ⟨Ba, 0, none⟩ = some (.int .i64 f.pl) ∧ Wn.cell? ⟨Ba, 1, none⟩ = some (.int .i64 f.mi) ∧ Wn.cell? ⟨Ba, 2, none⟩ = some (.slice (some ⟨g1, 0, none⟩) f.tr.length k1) ∧ Wn.cell? ⟨Ba, 3, none⟩ = some (.slice (some ⟨g2, 0, none⟩) f.bl.length k2) ∧ Wn.cell? ⟨Ba, 4, none⟩ = some (.slice D3 f.ct.length k3)) ∧ Wn.cell? ⟨Bb, 0, none⟩ = some (.int .i64 f.pl) ∧ Wn.cell? ⟨Bb, 1, none⟩ = some (.int .i64 f.mi) ∧ Wn.cell? ⟨Bb, 2, none⟩ = some (.slice a5 f.tr.length q5) ∧ Wn.cell? ⟨Bb, 3, none⟩ = some (.slice b5 f.bl.length r5) ∧ Wn.cell? ⟨Bb, 4, none⟩ = some (.slice c5 f.ct.length t5) ∧ Wn.cell? ⟨Bb, 5, none⟩ = some (.slice A5 n5 k5)) := by
    unfold Hid
    rw [← hWn]
    have hab' := hab
    have hba' := hba
    simp [go_sem, p0, p1, p2, p3, p4, u0, u1, u2, u3, u4, u5, hab', hba']
  have HOF : Hid (OwnF Wn (.agg #[.int .i64 f.pl, .int .i64 f.mi, .slice (some ⟨g1, 0, none⟩) f.tr.length k1, .slice (some ⟨g2, 0, none⟩) f.bl.length k2, .slice D3 f.ct.length k3]) f) := ho1.keep hbn hFB
  have HTF : Hid (TheirsF Wn (.agg #[.int .i64 f.pl, .int .i64 f.mi, .slice a5 f.tr.length q5, .slice b5 f.bl.length r5, .slice c5 f.ct.length t5, .slice A5 n5 k5]) f d) := ho5.keep hbn hRB
  have HKD : Hid (l.length ≤ kd) := own_cap hod
  have HMI : Hid (Ints Wn (some ⟨gd, 0, none⟩) l) := Rd.of_own (hbn.own hod (fun g hg hs => by obtain ⟨cs, T, hh, n1, n2, n3, n4, n5⟩ := hFB g hs; exact own_ne hod hh n4 hg))
  clear hod
  have HD5 := hid hd5
  clear ho1 ho5 hbn hFB hRB GA GB hd5
  obtain ⟨⟨a0, a1, a2, a3, a4⟩, x0, x1, x2, x3, x4, x5⟩ := FN.out
  have FC : Hid (∀ w', Ext Wn w' → (w'.cell? ⟨Ba, 0, none⟩ = some (.int .i64 f.pl) ∧ w'.cell? ⟨Ba, 1, none⟩ = some (.int .i64 f.mi) ∧ w'.cell? ⟨Ba, 2, none⟩ = some (.slice (some ⟨g1, 0, none⟩) f.tr.length k1) ∧ w'.cell? ⟨Ba, 3, none⟩ = some (.slice (some ⟨g2, 0, none⟩) f.bl.length k2) ∧ w'.cell? ⟨Ba, 4, none⟩ = some (.slice D3 f.ct.length k3)) ∧ (w'.cell? ⟨Bb, 0, none⟩ = some (.int .i64 f.pl) ∧ w'.cell? ⟨Bb, 1, none⟩ = some (.int .i64 f.mi) ∧ w'.cell? ⟨Bb, 2, none⟩ = some (.slice a5 f.tr.length q5) ∧ w'.cell? ⟨Bb, 3, none⟩ = some (.slice b5 f.bl.length r5) ∧ w'.cell? ⟨Bb, 4, none⟩ = some (.slice c5 f.ct.length t5) ∧ w'.cell? ⟨Bb, 5, none⟩ = some (.slice A5 n5 k5)) ∧ w'.cell? ⟨w.heap.size, 0, none⟩ = some (.int .i64 f.pl) ∧ w'.cell? ⟨w.heap.size, 1, none⟩ = some (.int .i64 f.mi) ∧ w'.cell? ⟨w.heap.size, 2, none⟩ = some (.slice s.a1 f.tr.length s.c1) ∧ w'.cell? ⟨w.heap.size, 3, none⟩ = some (.slice s.a2 f.bl.length s.c2) ∧ w'.cell? ⟨w.heap.size, 4, none⟩ = some (.slice s.a3 f.ct.length s.c3)) := fun w' h => ⟨⟨h.cell a0, h.cell a1, h.cell a2, h.cell a3, h.cell a4⟩, ⟨h.cell x0, h.cell x1, h.cell x2, h.cell x3, h.cell x4, h.cell x5⟩, FX.out w' (hx0n.trans h)⟩
  obtain ⟨-, -, q0, q1, q2, q3, q4⟩ := FC.out Wn (Ext.refl _)
  have HO : Hid (∀ w', Ext Wn w' → FgR w' (.agg #[.int .i64 f.pl, .int .i64 f.mi, .slice (some ⟨g1, 0, none⟩) f.tr.length k1, .slice (some ⟨g2, 0, none⟩) f.bl.length k2, .slice D3 f.ct.length k3]) f) := fun w' h => HOF.out.fg.ext h
  have HX : Hid (∀ w', Ext Wn w' → RgR w' (.agg #[.int .i64 f.pl, .int .i64 f.mi, .slice a5 f.tr.length q5, .slice b5 f.bl.length r5, .slice c5 f.ct.length t5, .slice A5 n5 k5]) f d) := fun w' h => HTF.out.rg.ext h
  have HV : Hid (∀ w', Ext Wn w' → FgR w' (.agg #[.int .i64 f.pl, .int .i64 f.mi, .slice s.a1 f.tr.length s.c1, .slice s.a2 f.bl.length s.c2, .slice s.a3 f.ct.length s.c3]) f) := fun w' h => HF.out w' (hx1n.trans h)
  have HXN : Hid (Ext w Wn) := hx1.trans hx1n
  have HMM : Hid (∀ w', Ext Wn w' → Ints w' (some ⟨gd, 0, none⟩) l) := fun w' h => HMI.out.ext h
  have HCV : Hid (∀ w', Ext Wn w' → Ints w' AC l) := fun w' h => HCP.out w' (hx1n.trans h)
  have h0 : Ext Wn Wn := Ext.refl _
  clear FX HF HOF HTF FN hx0n hx1n hx1 hx0 hb1 hBa hBb hw9 HMI HCP
  simp only [List.drop_succ_cons, List.drop_zero]
  obtain ⟨T, hT⟩ : ∃ T, checkF f = T := ⟨_, rfl⟩
  have HT := hid hT
  have K := refcheck_any _ f d Wn (HX.out Wn h0) HS.out
  rw [hT] at K
  have HK := hid K
  clear K hT
  go_wp2_with fail
  try rw [hWn]
  clear hWn hab hba p0 p1 p2 p3 p4 u0 u1 u2 u3 u4 u5 f0 f1 f2 f3 f4 v0 v1 v2 v3 v4 v5
  clear a0 a1 a2 a3 a4 x0 x1 x2 x3 x4 x5 q0 q1 q2 q3 q4
  refine HK.out.mono ?_
  clear HK
  rintro e w10 ⟨rfl, h⟩
  have h10 : Ext Wn w10 := h
  clear h h0
  obtain ⟨E1, hE1⟩ : ∃ E1, cartE f k = E1 := ⟨_, rfl⟩
  have H_E1 := hid hE1
  clear hE1
  obtain ⟨FV, hFV⟩ : ∃ FV, fitsV f k l = FV := ⟨_, rfl⟩
  have H_FV := hid hFV
  clear hFV
  obtain ⟨CV, hCV⟩ : ∃ CV, countV f k = CV := ⟨_, rfl⟩
  have H_CV := hid hCV
  clear hCV
  obtain ⟨WE, hWE⟩ : ∃ WE, walkE f k m p = WE := ⟨_, rfl⟩
  have H_WE := hid hWE
  clear hWE
  obtain ⟨⟨a0, a1, a2, a3, a4⟩, ⟨x0, x1, x2, x3, x4, x5⟩, q0, q1, q2, q3, q4⟩ := FC.out w10 h10
  go_upto_if 41 with fail
  go_cut [14] (fun s14 wx => s14 = .int .i64 E1 ∧ Ext Wn wx)
  case first =>
    by_cases hT0 : T = 0
    case neg =>
      have bT : (T == 0) = false := by simpa using hT0
      have HE : Hid (E1 = T) := by unfold Hid; rw [← H_E1.out]; exact cartW_bad HT.out hT0
      go_wp2_with fail
      go_meet
      exact ⟨by rw [HE.out], h10⟩
    subst hT0
    clear a0 a1 a2 a3 a4 x0 x1 x2 x3 x4 x5 q0 q1 q2 q3 q4
    have K := refcart_any _ f d k w10 (HX.out w10 h10) HS.out
    rw [← cartW_in HT.out, H_E1.out] at K
    have HK := hid K
    clear K
    obtain ⟨⟨a0, a1, a2, a3, a4⟩, ⟨x0, x1, x2, x3, x4, x5⟩, q0, q1, q2, q3, q4⟩ := FC.out w10 h10
    go_wp2_with fail
    clear a0 a1 a2 a3 a4 x0 x1 x2 x3 x4 x5 q0 q1 q2 q3 q4
    refine (HK.out).mono ?_
    clear HK
    rintro e w12 ⟨rfl, h⟩
    have h12 := h10.trans h
    clear h
    go_wp2_with fail
    go_meet
    exact ⟨rfl, h12⟩
  case rest =>
    clear a0 a1 a2 a3 a4 x0 x1 x2 x3 x4 x5 q0 q1 q2 q3 q4
    obtain ⟨rfl, h20⟩ := hcut
    obtain ⟨w20, hw20⟩ : ∃ w20, w20 = wc := ⟨_, rfl⟩
    subst hw20
    have K := fitsx_any _ f k (some ⟨gd, 0, none⟩) kd l w20 (HO.out w20 h20) HS.out (HMM.out w20 h20) (by omega) HKD.out
    rw [H_FV.out, H_E1.out] at K
    have HK := hid K
    clear K
    obtain ⟨⟨a0, a1, a2, a3, a4⟩, ⟨x0, x1, x2, x3, x4, x5⟩, q0, q1, q2, q3, q4⟩ := FC.out w20 h20
    go_wp2_with fail
    clear a0 a1 a2 a3 a4 x0 x1 x2 x3 x4 x5 q0 q1 q2 q3 q4
    refine (HK.out).mono ?_
    clear HK
    rintro e w21 ⟨rfl, h⟩
    have h21 := h20.trans h
    clear h
    have K := countx_any _ f k w21 (HO.out w21 h21) HS.out
    rw [H_CV.out, H_E1.out] at K
    have HK := hid K
    clear K
    obtain ⟨⟨a0, a1, a2, a3, a4⟩, ⟨x0, x1, x2, x3, x4, x5⟩, q0, q1, q2, q3, q4⟩ := FC.out w21 h21
    go_wp2_with fail
    clear a0 a1 a2 a3 a4 x0 x1 x2 x3 x4 x5 q0 q1 q2 q3 q4
    refine (HK.out).mono ?_
    clear HK
    rintro e w22 ⟨rfl, h⟩
    have h22 := h21.trans h
    clear h
    have K := walkx_any _ f k m p w22 (HO.out w22 h22) HS.out
    have HK := hid K
    clear K
    obtain ⟨⟨a0, a1, a2, a3, a4⟩, ⟨x0, x1, x2, x3, x4, x5⟩, q0, q1, q2, q3, q4⟩ := FC.out w22 h22
    go_wp2_with fail
    clear a0 a1 a2 a3 a4 x0 x1 x2 x3 x4 x5 q0 q1 q2 q3 q4
    refine (HK.out).mono ?_
    clear HK
    rintro e w23 ⟨r9, rfl, h, hwk, hwn⟩
    have h23 := h22.trans h
    rw [H_WE.out] at hwk hwn ⊢
    clear h
    by_cases hE0 : E1 = 0
    case neg =>
      have bE : (E1 == 0) = false := by simpa using hE0
      have bE2 : (E1 != 0) = true := by simpa using hE0
      have e : cartE f k ≠ 0 := by rw [H_E1.out]; exact hE0
      have HWE : Hid (WE = E1) := by unfold Hid; rw [← H_WE.out]; unfold walkE; rw [if_pos e, H_E1.out]
      have hr9 := hwn (by rw [HWE.out]; exact hE0)
      have HFV : Hid (FV = false) := by unfold Hid; rw [← H_FV.out]; unfold fitsV; rw [decide_eq_false e]; rfl
      have HCV0 : Hid (CV = 0) := by unfold Hid; rw [← H_CV.out]; unfold countV; rw [if_neg e]
      subst hr9
      rw [HWE.out, HFV.out, HCV0.out]
      clear hwk hwn hE0 e
      have K := same_yes _ _ f w23 (HO.out w23 h23) (HV.out w23 h23) HS.out
      have HK := hid K
      clear K
      obtain ⟨⟨a0, a1, a2, a3, a4⟩, ⟨x0, x1, x2, x3, x4, x5⟩, q0, q1, q2, q3, q4⟩ := FC.out w23 h23
      go_wp2_with fail
      clear a0 a1 a2 a3 a4 x0 x1 x2 x3 x4 x5 q0 q1 q2 q3 q4
      refine (HK.out).mono ?_
      clear HK
      rintro e w70 ⟨rfl, h⟩
      have h70 := h23.trans h
      clear h
      go_wp2_with fail
      refine (awake_any w70).mono ?_
      rintro e w71 ⟨rfl, h⟩
      go_wp2
      go_ret
      exact ⟨rfl, HXN.out.trans (h70.trans h)⟩
    subst hE0
    obtain ⟨hc0, hk0, hk1⟩ := cartE_ok H_E1.out
    have HOK := hid (checkF_ok hc0)
    have hdd := HD5.out hc0
    subst hdd
    obtain ⟨kn, rfl⟩ : ∃ kn : Nat, k = kn := ⟨k.toNat, by omega⟩
    obtain ⟨c, hcg⟩ := get_of_lt f.ct kn (by omega)
    have HCG := hid hcg
    have HCM : Hid (c ∈ f.ct) := mem_of_get hcg
    have HCA : Hid (ctAt f (kn : Int) = c) := by unfold Hid ctAt; rw [Int.toNat_natCast, List.getD_eq_getElem?_getD, hcg]; rfl
    have h8 := HOK.out.rn c HCM.out
    have hpl := HOK.out.pl
    have hmi := HOK.out.mi
    have HF1 : Hid (fitsM (farM f) f c l = FV) := by unfold Hid; rw [← H_FV.out]; unfold fitsV; rw [H_E1.out, HCA.out]; rfl
    have HC1 : Hid (countM (farM f) f c (selS (everyN c)) = CV) := by unfold Hid; rw [← H_CV.out]; unfold countV; rw [if_pos H_E1.out, HCA.out]; exact count_all
    have KF : Hid (∀ w', Ext w23 w' → Calls Tryz.prog 51 #[.agg #[.int .i64 f.pl, .int .i64 f.mi, .slice a5 f.tr.length q5, .slice b5 f.bl.length r5, .slice c5 f.ct.length t5, .slice A5 n5 k5], .int .i64 (kn : Int), .slice AC l.length kC] w' fun e w2 => e = .returned (.bool FV) ∧ Ext w' w2) := fun w' h => by
      have K := reffits_any _ f kn c AC kC l w' (HX.out w' (h23.trans h)) HS.out HOK.out HCG.out (HCV.out w' (h23.trans h)) (by omega)
      rw [HF1.out] at K
      exact K
    have KC : Hid (∀ w', Ext w23 w' → Calls Tryz.prog 36 #[.agg #[.int .i64 f.pl, .int .i64 f.mi, .slice a5 f.tr.length q5, .slice b5 f.bl.length r5, .slice c5 f.ct.length t5, .slice A5 n5 k5], .int .i64 (kn : Int), .int .i64 (everyN c : Nat)] w' fun e w2 => e = .returned (.int .i64 CV) ∧ Ext w' w2) := fun w' h => by
      have K := refcount_any _ f kn c (everyN c) w' (HX.out w' (h23.trans h)) HS.out HOK.out HCG.out (every_lt h8)
      rw [HC1.out] at K
      exact K
    clear hcg hk0 hk1 hc0
    go_wp2
    refine wp_region_shut Ext (fun w' => Ext w23 w') (fun
      | 4 => some (fun v w' => v = .bool FV)
      | 12 => some (fun v w' => v = .int .i64 (everyN c : Nat))
      | 13 => some (fun v w' => v = .int .i64 CV)
      | _ => none) (by kernel_rfl) (by kernel_rfl) (fun _ _ h k => h.trans k) ?hTs (Ext.drew (Ext.refl w23)) ?_
    case hTs =>
      intro i R hR
      match i, hR with
      | 4, hR => cases hR; exact fun _ _ _ h _ => h
      | 12, hR => cases hR; exact fun _ _ _ h _ => h
      | 13, hR => cases hR; exact fun _ _ _ h _ => h
    refine wM_val ?us0 rfl rfl Ext.refl (fun w' hD => ?hs0) (fun phs0 => ?ns0)
    case hs0 =>
      obtain ⟨⟨a0, a1, a2, a3, a4⟩, ⟨x0, x1, x2, x3, x4, x5⟩, q0, q1, q2, q3, q4⟩ := FC.out w' (h23.trans hD.1)
      go_simp; rfl
    simp only [Act.put, List.setIfInBounds_toArray, List.set_cons_succ, List.set_cons_zero, Nat.reduceAdd]
    refine wM_val ?us1 rfl rfl Ext.refl (fun w' hD => ?hs1) (fun phs1 => ?ns1)
    case hs1 =>
      obtain ⟨⟨a0, a1, a2, a3, a4⟩, ⟨x0, x1, x2, x3, x4, x5⟩, q0, q1, q2, q3, q4⟩ := FC.out w' (h23.trans hD.1)
      go_simp; rfl
    simp only [Act.put, List.setIfInBounds_toArray, List.set_cons_succ, List.set_cons_zero, Nat.reduceAdd]
    refine wM_val ?us2 rfl rfl Ext.refl (fun w' hD => ?hs2) (fun phs2 => ?ns2)
    case hs2 =>
      obtain ⟨⟨a0, a1, a2, a3, a4⟩, ⟨x0, x1, x2, x3, x4, x5⟩, q0, q1, q2, q3, q4⟩ := FC.out w' (h23.trans hD.1)
      go_simp; rfl
    simp only [Act.put, List.setIfInBounds_toArray, List.set_cons_succ, List.set_cons_zero, Nat.reduceAdd]
    refine wM_val ?us3 rfl rfl Ext.refl (fun w' hD => ?hs3) (fun phs3 => ?ns3)
    case hs3 =>
      obtain ⟨⟨a0, a1, a2, a3, a4⟩, ⟨x0, x1, x2, x3, x4, x5⟩, q0, q1, q2, q3, q4⟩ := FC.out w' (h23.trans hD.1)
      go_simp; rfl
    simp only [Act.put, List.setIfInBounds_toArray, List.set_cons_succ, List.set_cons_zero, Nat.reduceAdd]
    refine wM_op _ rfl rfl (opens_call ?fs4 ?gs4 (fun w' hD => ?hs4) (fun w' hD => ?cs4)) (fun v4 hv4 => ?ns4)
    case hs4 => go_simp; constructor <;> rfl
    case cs4 =>
      refine (KF.out w' hD.1).mono ?_
      rintro e w2 ⟨rfl, hb⟩
      exact ⟨_, rfl, hb, rfl⟩
    obtain ⟨_, -, -, rfl⟩ := hv4
    simp only [Act.put, List.setIfInBounds_toArray, List.set_cons_succ, List.set_cons_zero, Nat.reduceAdd]
    refine wM_val (.bool false) rfl rfl Ext.refl (fun w' hD => ?hs5) (fun phs5 => ?ns5)
    case hs5 => go_simp; first | done | rfl | simp
    simp only [Act.put, List.setIfInBounds_toArray, List.set_cons_succ, List.set_cons_zero, Nat.reduceAdd]
    refine wM_val ?us6 rfl rfl Ext.refl (fun w' hD => ?hs6) (fun phs6 => ?ns6)
    case hs6 =>
      obtain ⟨⟨a0, a1, a2, a3, a4⟩, ⟨x0, x1, x2, x3, x4, x5⟩, q0, q1, q2, q3, q4⟩ := FC.out w' (h23.trans hD.1)
      go_simp; rfl
    simp only [Act.put, List.setIfInBounds_toArray, List.set_cons_succ, List.set_cons_zero, Nat.reduceAdd]
    refine wM_val ?us7 rfl rfl Ext.refl (fun w' hD => ?hs7) (fun phs7 => ?ns7)
    case hs7 =>
      obtain ⟨⟨a0, a1, a2, a3, a4⟩, ⟨x0, x1, x2, x3, x4, x5⟩, q0, q1, q2, q3, q4⟩ := FC.out w' (h23.trans hD.1)
      go_simp; rfl
    simp only [Act.put, List.setIfInBounds_toArray, List.set_cons_succ, List.set_cons_zero, Nat.reduceAdd]
    refine wM_val ?us8 rfl rfl Ext.refl (fun w' hD => ?hs8) (fun phs8 => ?ns8)
    case hs8 =>
      obtain ⟨⟨a0, a1, a2, a3, a4⟩, ⟨x0, x1, x2, x3, x4, x5⟩, q0, q1, q2, q3, q4⟩ := FC.out w' (h23.trans hD.1)
      go_simp; rfl
    simp only [Act.put, List.setIfInBounds_toArray, List.set_cons_succ, List.set_cons_zero, Nat.reduceAdd]
    refine wM_val ?us9 rfl rfl Ext.refl (fun w' hD => ?hs9) (fun phs9 => ?ns9)
    case hs9 =>
      obtain ⟨⟨a0, a1, a2, a3, a4⟩, ⟨x0, x1, x2, x3, x4, x5⟩, q0, q1, q2, q3, q4⟩ := FC.out w' (h23.trans hD.1)
      go_simp; rfl
    simp only [Act.put, List.setIfInBounds_toArray, List.set_cons_succ, List.set_cons_zero, Nat.reduceAdd]
    refine wM_val ?us10 rfl rfl Ext.refl (fun w' hD => ?hs10) (fun phs10 => ?ns10)
    case hs10 =>
      obtain ⟨⟨a0, a1, a2, a3, a4⟩, ⟨x0, x1, x2, x3, x4, x5⟩, q0, q1, q2, q3, q4⟩ := FC.out w' (h23.trans hD.1)
      go_simp; rfl
    simp only [Act.put, List.setIfInBounds_toArray, List.set_cons_succ, List.set_cons_zero, Nat.reduceAdd]
    refine wM_val ?us11 rfl rfl Ext.refl (fun w' hD => ?hs11) (fun phs11 => ?ns11)
    case hs11 =>
      obtain ⟨⟨a0, a1, a2, a3, a4⟩, ⟨x0, x1, x2, x3, x4, x5⟩, q0, q1, q2, q3, q4⟩ := FC.out w' (h23.trans hD.1)
      go_simp; rfl
    simp only [Act.put, List.setIfInBounds_toArray, List.set_cons_succ, List.set_cons_zero, Nat.reduceAdd]
    refine wM_op _ rfl rfl (opens_call ?fs12 ?gs12 (fun w' hD => ?hs12) (fun w' hD => ?cs12)) (fun v12 hv12 => ?ns12)
    case hs12 => go_simp; constructor <;> rfl
    case cs12 =>
      refine (refevery_any _ f (distL f) kn c w' (HX.out w' (h23.trans hD.1)) HCG.out h8).mono ?_
      rintro e w2 ⟨rfl, hb⟩
      exact ⟨_, rfl, hb, rfl⟩
    obtain ⟨_, -, -, rfl⟩ := hv12
    simp only [Act.put, List.setIfInBounds_toArray, List.set_cons_succ, List.set_cons_zero, Nat.reduceAdd]
    refine wM_op _ rfl rfl (opens_call ?fs13 ?gs13 (fun w' hD => ?hs13) (fun w' hD => ?cs13)) (fun v13 hv13 => ?ns13)
    case hs13 => go_simp; constructor <;> rfl
    case cs13 =>
      refine (KC.out w' hD.1).mono ?_
      rintro e w2 ⟨rfl, hb⟩
      exact ⟨_, rfl, hb, rfl⟩
    obtain ⟨_, -, -, rfl⟩ := hv13
    simp only [Act.put, List.setIfInBounds_toArray, List.set_cons_succ, List.set_cons_zero, Nat.reduceAdd]
    refine wM_val (.bool false) rfl rfl Ext.refl (fun w' hD => ?hs14) (fun phs14 => ?ns14)
    case hs14 => go_simp; first | done | rfl | simp
    simp only [Act.put, List.setIfInBounds_toArray, List.set_cons_succ, List.set_cons_zero, Nat.reduceAdd]
    refine wM_val ?us15 rfl rfl Ext.refl (fun w' hD => ?hs15) (fun phs15 => ?ns15)
    case hs15 =>
      obtain ⟨⟨a0, a1, a2, a3, a4⟩, ⟨x0, x1, x2, x3, x4, x5⟩, q0, q1, q2, q3, q4⟩ := FC.out w' (h23.trans hD.1)
      go_simp; rfl
    simp only [Act.put, List.setIfInBounds_toArray, List.set_cons_succ, List.set_cons_zero, Nat.reduceAdd]
    refine wM_nil ?_
    intro w9 hw9 hF9
    clear hF9 KF KC
    have h24 := h23.trans hw9
    obtain ⟨w24, hw24⟩ : ∃ w24, w24 = w9 := ⟨_, rfl⟩
    subst hw24
    have x24 : Ext w23 w24 := hw9
    clear hw9
    have K := refcan_any _ f kn c w24 (HX.out w24 h24) HS.out HOK.out HCG.out
    have HK := hid K
    clear K
    obtain ⟨⟨a0, a1, a2, a3, a4⟩, ⟨x0, x1, x2, x3, x4, x5⟩, q0, q1, q2, q3, q4⟩ := FC.out w24 h24
    go_wp2_with fail
    clear a0 a1 a2 a3 a4 x0 x1 x2 x3 x4 x5 q0 q1 q2 q3 q4
    refine (HK.out).mono ?_
    clear HK
    rintro e w25 ⟨A9, k9, rfl, h, hI9, hk9⟩
    have h25 := h24.trans h
    have x25 := x24.trans h
    clear h
    have HI9 := hid hI9
    obtain ⟨Mi, hMi⟩ : ∃ Mi : Nat, f.mi.toNat = Mi := ⟨_, rfl⟩
    have HMI := hid hMi
    rw [hMi]
    obtain ⟨MO, hMO⟩ : ∃ MO, miOK f m = MO := ⟨_, rfl⟩
    have HMO := hid hMO
    have HMJ : Hid (f.mi = (Mi : Int)) := by unfold Hid; omega
    clear hMi hMO hI9 hk9
    obtain ⟨⟨a0, a1, a2, a3, a4⟩, ⟨x0, x1, x2, x3, x4, x5⟩, q0, q1, q2, q3, q4⟩ := FC.out w25 h25
    go_upto_block 0 with fail
    go_cut [14] (fun s14 wx => s14 = .int .i64 WE ∧ w25 = wx)
    case first =>
      by_cases c1 : m < 0
      · have HB2 : Hid (WE = 3) := by
          have h2 : miOK f m = false := by unfold miOK; rw [inB_not]; omega
          unfold Hid; rw [← H_WE.out]; unfold walkE
          rw [if_neg (fun h => h H_E1.out), h2]; rfl
        go_wp2_with fail
        go_meet
        exact ⟨by rw [HB2.out], rfl⟩
      by_cases c2 : f.mi < m
      · have HB2 : Hid (WE = 3) := by
          have h2 : miOK f m = false := by unfold miOK; rw [inB_not]; omega
          unfold Hid; rw [← H_WE.out]; unfold walkE
          rw [if_neg (fun h => h H_E1.out), h2]; rfl
        go_wp2_with fail
        go_meet
        exact ⟨by rw [HB2.out], rfl⟩
      have HMO1 : Hid (miOK f m = true) := by unfold Hid miOK; rw [inB_iff]; omega
      have hmm := inB_iff.1 HMO1.out
      by_cases c3 : p < 0
      · have HB2 : Hid (WE = 1) := by
          have h2 : plOK f p = false := by unfold plOK; rw [inB_not]; omega
          unfold Hid; rw [← H_WE.out]; unfold walkE
          rw [if_neg (fun h => h H_E1.out), HMO1.out, h2]; rfl
        go_wp2_with fail
        go_meet
        exact ⟨by rw [HB2.out], rfl⟩
      by_cases c4 : f.pl ≤ p
      · have HB2 : Hid (WE = 1) := by
          have h2 : plOK f p = false := by unfold plOK; rw [inB_not]; omega
          unfold Hid; rw [← H_WE.out]; unfold walkE
          rw [if_neg (fun h => h H_E1.out), HMO1.out, h2]; rfl
        go_wp2_with fail
        go_meet
        exact ⟨by rw [HB2.out], rfl⟩
      have h2 : plOK f p = true := by unfold plOK; rw [inB_iff]; omega
      obtain ⟨mn, rfl⟩ : ∃ mn : Nat, m = mn := ⟨m.toNat, by omega⟩
      have HB2 : Hid (WE = if memI p (natI (canN (farM f) f c mn)) then 0 else 6) := by
        unfold Hid; rw [← H_WE.out, ← HCA.out]; exact walk_err H_E1.out HMO1.out h2
      have hmn : mn ≤ Mi := by have := HMJ.out; omega
      have hmn' : (mn : Int) < (Mi : Int) + 1 := by omega
      obtain ⟨LC, hLC⟩ : ∃ LC, natI (canN (farM f) f c mn) = LC := ⟨_, rfl⟩
      obtain ⟨rb, ro, A7, k7, eA9, g0, hI7, hk7⟩ := HI9.out.at_ (canL_get (show mn ≤ f.mi.toNat by rw [HMI.out]; exact hmn))
      cases eA9
      have hl7 : LC.length ≤ 8 := by rw [← hLC]; exact (canN_lt hpl.2 mn).2
      rw [hLC] at g0 hI7 HB2
      have HI7 := hid hI7
      clear hI7 hk7 hLC h2 hmm
      go_wp2_with fail
      clear g0
      go_loopw [124, 14] (fun i124 i14 wr => ∃ (j : Nat) (A3 : Int), j ≤ LC.length ∧ i124 = .int .i64 (j : Int) ∧ i14 = .int .i64 A3 ∧ Hid (A3 = if memI p (LC.take j) then 0 else 6) ∧ w25 = wr) (fun i _ _ => LC.length - (intOf i).toNat)
      case atStart => exact ⟨0, 6, Nat.zero_le _, rfl, rfl, by simp [Hid, memI], (by first | rfl | trivial)⟩
      case round =>
        obtain ⟨j, A3, hj, rfl, rfl, HA3, hxw⟩ := hrel
        subst hxw
        by_cases hlt : j < LC.length
        · have hlt' : (j : Int) < (LC.length : Int) := by omega
          obtain ⟨x, hxj⟩ := get_of_lt LC j hlt
          obtain ⟨b7, o7, e7, g7⟩ := Ints.at_ HI7.out hxj
          rw [e7]
          have HNX : Hid (memI p (LC.take (j + 1)) = (memI p (LC.take j) || p == x)) := by
            unfold Hid memI
            rw [take_next hxj, List.any_append]; simp
          clear hxj e7
          by_cases hxp : x = p
          · have bx : (x == p) = true := by simp [hxp]
            have HA4 : Hid ((0 : Int) = if memI p (LC.take (j + 1)) then 0 else 6) := by
              unfold Hid; rw [HNX.out, hxp]; simp
            clear HA3 HNX hxp
            go_wp2
            go_roundw
            case rel => exact ⟨j + 1, 0, by omega, by go_num, rfl, HA4, (by first | rfl | trivial)⟩
            case measure => simp [intOf]; omega
          · have bx : (x == p) = false := by simpa using hxp
            have HA4 : Hid (A3 = if memI p (LC.take (j + 1)) then 0 else 6) := by
              have hpx : (p == x) = false := by simp; exact fun e => hxp e.symm
              unfold Hid; rw [HNX.out, hpx, Bool.or_false]; exact HA3.out
            clear HA3 HNX hxp
            go_wp2
            go_roundw
            case rel => exact ⟨j + 1, A3, by omega, by go_num, rfl, HA4, (by first | rfl | trivial)⟩
            case measure => simp [intOf]; omega
        · have hlt' : ¬ (j : Int) < (LC.length : Int) := by omega
          have HWA : Hid (WE = A3) := by
            have h := HA3.out
            rw [List.take_of_length_le (by omega)] at h
            unfold Hid; rw [HB2.out, h]
          clear HA3
          go_wp2_with fail
          go_meet
          exact ⟨by rw [HWA.out], rfl⟩
    case rest =>
      clear a0 a1 a2 a3 a4 x0 x1 x2 x3 x4 x5 q0 q1 q2 q3 q4
      obtain ⟨rfl, hwc⟩ := hcut
      subst hwc
      by_cases hW0 : WE = 0
      case neg =>
        have bW : (WE == 0) = false := by simpa using hW0
        have bW2 : (WE != 0) = true := by simpa using hW0
        have hr9 := hwn hW0
        subst hr9
        clear hwk hwn hW0
        have K := same_yes _ _ f w25 (HO.out w25 h25) (HV.out w25 h25) HS.out
        have HK := hid K
        clear K
        obtain ⟨⟨a0, a1, a2, a3, a4⟩, ⟨x0, x1, x2, x3, x4, x5⟩, q0, q1, q2, q3, q4⟩ := FC.out w25 h25
        go_wp2_with fail
        clear a0 a1 a2 a3 a4 x0 x1 x2 x3 x4 x5 q0 q1 q2 q3 q4
        refine (HK.out).mono ?_
        clear HK
        rintro e w70 ⟨rfl, h⟩
        have h70 := h25.trans h
        clear h
        have K := eq_int (some ⟨gd, 0, none⟩) AC kd kC l l w70 (HMM.out w70 h70) (HCV.out w70 h70) (by omega) (by omega)
        rw [beq_self_eq_true] at K
        have HK := hid K
        clear K
        go_wp2_with fail
        refine HK.out.mono ?_
        clear HK
        rintro e w71 ⟨rfl, h⟩
        have h71 := h70.trans h
        clear h
        go_wp2_with fail
        refine (awake_any w71).mono ?_
        rintro e w72 ⟨rfl, h⟩
        go_wp2
        go_ret
        exact ⟨rfl, HXN.out.trans (h71.trans h)⟩
      obtain ⟨l9, g9, q9, rfl, ho9, hf9, hgd⟩ := hwk hW0
      have bW : (WE == 0) = true := by simp [hW0]
      have bW2 : (WE != 0) = false := by simp [hW0]
      have HW0 := hid hW0
      clear hwn hwk hW0
      have HI0 : Hid (∀ w', Ext w23 w' → Ints w' (some ⟨g9, 0, none⟩) l9) := fun w' h => (Rd.of_own ho9).ext h
      have hl9 : l9.length = f.mi.toNat + 1 := by
        unfold fitsM at hf9
        simp only [Bool.and_eq_true, decide_eq_true_eq] at hf9
        exact hf9.1.1.1.1
      have HMO1 : Hid (miOK f m = true) := by
        have h := H_WE.out.trans HW0.out
        unfold walkE at h
        rw [if_neg (fun h => h H_E1.out)] at h
        unfold Hid
        cases hq : miOK f m
        · rw [hq] at h; simp at h
        · rfl
      have hmm := inB_iff.1 HMO1.out
      obtain ⟨mn, rfl⟩ : ∃ mn : Nat, m = mn := ⟨m.toNat, by omega⟩
      rw [Int.toNat_natCast] at hgd
      have hml : mn < l9.length := by omega
      have hml' : (mn : Int) < (l9.length : Int) := by omega
      have hcell : w25.cell? ⟨g9, mn, none⟩ = some (.int .i64 p) := by
        obtain ⟨z, hz⟩ := get_of_lt l9 mn hml
        rw [List.getD_eq_getElem?_getD, hz] at hgd
        simp only [Option.getD_some] at hgd
        rw [hgd] at hz
        obtain ⟨b7, o7, e7, g7⟩ := Ints.at_ (HI0.out w25 x25) hz
        cases e7
        simpa using g7
      have K := reffits_any _ f kn c (some ⟨g9, 0, none⟩) q9 l9 w25 (HX.out w25 h25) HS.out HOK.out HCG.out (HI0.out w25 x25) (by omega)
      rw [HCA.out] at hf9
      rw [hf9] at K
      have HK := hid K
      have HCE := hid hcell
      clear K hf9 hl9 hgd hmm ho9 hcell
      obtain ⟨⟨a0, a1, a2, a3, a4⟩, ⟨x0, x1, x2, x3, x4, x5⟩, q0, q1, q2, q3, q4⟩ := FC.out w25 h25
      go_wp2_with fail
      clear a0 a1 a2 a3 a4 x0 x1 x2 x3 x4 x5 q0 q1 q2 q3 q4
      refine (HK.out).mono ?_
      clear HK
      rintro e w26 ⟨rfl, h⟩
      have h26 := h25.trans h
      have hc26 := h.cell HCE.out
      clear h
      have K := same_yes _ _ f w26 (HO.out w26 h26) (HV.out w26 h26) HS.out
      have HK := hid K
      clear K
      obtain ⟨⟨a0, a1, a2, a3, a4⟩, ⟨x0, x1, x2, x3, x4, x5⟩, q0, q1, q2, q3, q4⟩ := FC.out w26 h26
      go_wp2_with fail
      clear a0 a1 a2 a3 a4 x0 x1 x2 x3 x4 x5 q0 q1 q2 q3 q4
      refine (HK.out).mono ?_
      clear HK
      rintro e w70 ⟨rfl, h⟩
      have h70 := h26.trans h
      clear h
      have K := eq_int (some ⟨gd, 0, none⟩) AC kd kC l l w70 (HMM.out w70 h70) (HCV.out w70 h70) (by omega) (by omega)
      rw [beq_self_eq_true] at K
      have HK := hid K
      clear K
      go_wp2_with fail
      refine HK.out.mono ?_
      clear HK
      rintro e w71 ⟨rfl, h⟩
      have h71 := h70.trans h
      clear h
      go_wp2_with fail
      refine (awake_any w71).mono ?_
      rintro e w72 ⟨rfl, h⟩
      go_wp2
      go_ret
      exact ⟨rfl, HXN.out.trans (h71.trans h)⟩
end Go.Proofs.YtpbpcplboikpcaaGreat
