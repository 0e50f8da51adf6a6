/- The law's Made: a fog of numbers, with blasts, and carts without reports. Printed by my gen_fmade.py. -/
import Derived.Test.YtlonpgbapiemcaaGreatFMadeS
import Derived.Test.YtlonpgbapiemcaaGreatFWalkd
import Derived.Laws.ResultCell
import Derived.StillTailTactics
namespace Go.Proofs.YtlonpgbapiemcaaGreat
open Go Go.RowKit Go.Shelf
set_option linter.unusedVariables false
set_option linter.unusedSimpArgs false

/-- What is true of a fog on the way. -/
structure StF (pl mi : Int) (f : Fg) : Prop where
  epl : f.pl = pl
  emi : f.mi = mi
  tr : TrOK pl f.tr
  bl : ∀ b ∈ f.bl, (0 ≤ b.mi ∧ b.mi ≤ mi) ∧ (0 ≤ b.pl ∧ b.pl < pl) ∧ 0 ≤ b.lo ∧ b.lo ≤ 3
  ct : ∀ c ∈ f.ct, c.rp = [] ∧ (∀ p ∈ c.st, 0 ≤ p ∧ p < pl) ∧ 0 < c.st.length ∧ ascL c.st = true
theorem StF.start (pl mi : Int) : StF pl mi ⟨pl, mi, [], [], []⟩ := ⟨rfl, rfl, TrOK.nil _, fun b h => (by cases h), fun c h => (by cases h)⟩
theorem StF.addTr {pl mi : Int} {f : Fg} (h : StF pl mi f) {t : Int × Int} (ht : TrOK pl (f.tr ++ [t])) : StF pl mi { f with tr := f.tr ++ [t] } := ⟨h.epl, h.emi, ht, h.bl, h.ct⟩
theorem StF.addBl {pl mi : Int} {f : Fg} (h : StF pl mi f) {b : Bl} (hb : (0 ≤ b.mi ∧ b.mi ≤ mi) ∧ (0 ≤ b.pl ∧ b.pl < pl) ∧ 0 ≤ b.lo ∧ b.lo ≤ 3) : StF pl mi { f with bl := f.bl ++ [b] } :=
  ⟨h.epl, h.emi, h.tr, fun x hx => by
    rcases List.mem_append.1 hx with hx | hx
    · exact h.bl x hx
    · simp only [List.mem_singleton] at hx; subst hx; exact hb, h.ct⟩
theorem StF.addCt {pl mi : Int} {f : Fg} (h : StF pl mi f) {st : List Int} (hb : (∀ p ∈ st, 0 ≤ p ∧ p < pl) ∧ 0 < st.length ∧ ascL st = true) : StF pl mi { f with ct := f.ct ++ [⟨st, []⟩] } :=
  ⟨h.epl, h.emi, h.tr, h.bl, fun x hx => by
    rcases List.mem_append.1 hx with hx | hx
    · exact h.ct x hx
    · simp only [List.mem_singleton] at hx; subst hx; exact ⟨rfl, hb⟩⟩
theorem StF.made {pl mi : Int} {f : Fg} (h : StF pl mi f) {P M K : Nat} (h2 : 2 ≤ pl) (hP : pl ≤ P) (hP8 : P ≤ 8) (hm : 0 ≤ mi) (hM : mi ≤ M) (hM8 : M ≤ 8) (ht : f.tr.length ≤ 14) (hb : f.bl.length ≤ 8) (hc : 1 ≤ f.ct.length) (hK : f.ct.length ≤ K) (hK3 : K ≤ 3) : MadeF P M K f := by
  have e1 := h.epl
  have e2 := h.emi
  exact {
    ok := {
      pl := by omega
      mi := by omega
      tn := ht
      bn := hb
      cn := by omega
      tr := fun t htt => by have := h.tr.1 t htt; omega
      bl := fun b hbb => by have := h.bl b hbb; omega
      st := fun c hcc p hp => by have := (h.ct c hcc).2.1 p hp; omega
      rp := fun c hcc r hr => by rw [(h.ct c hcc).1] at hr; cases hr
      rn := fun c hcc => by rw [(h.ct c hcc).1]; decide
      ra := fun c hcc => by rw [(h.ct c hcc).1]; rfl
      ne := fun c hcc => (h.ct c hcc).2.2.1
      asc := fun c hcc => (h.ct c hcc).2.2.2 }
    ag := h.tr.2
    pl := by omega
    mi := by omega
    ct := hK
    rp := fun c hcc => (h.ct c hcc).1 }
theorem ascL_snoc {l : List Int} {x : Int} (h : ascL l = true) (hx : ∀ y ∈ l, y < x) : ascL (l ++ [x]) = true := by
  rw [ascL_iff] at h ⊢
  rw [List.pairwise_append]
  exact ⟨h, List.pairwise_singleton _ _, fun a ha b hb => by simp only [List.mem_singleton] at hb; subst hb; exact hx a ha⟩
theorem deal_up2 (D : Nat) (w : World) : Up (Deal D) (fun w' => Bel D w w' ∧ HeapR w' D) := fun _ _ h k => ⟨h.1.trans k.1, k.2 h.2⟩
def MadePost (D P M K : Nat) (w : World) (e : Ending) (w' : World) : Prop :=
  ∃ v f, e = .returned v ∧ MadeF P M K f ∧ (∀ b ∈ f.bl, b.lo ≤ 3) ∧ (∃ B, w.heap.size ≤ B ∧ OwnGB w' B v f) ∧ Bel D w w' ∧ HeapR w' D

set_option maxRecDepth 100000 in
set_option maxHeartbeats 16000000 in
theorem made_any (D P M K : Nat) (w : World) (hh : HeapR w D) (hP2 : 2 ≤ P) (hP8 : P ≤ 8) (hM8 : M ≤ 8) (hK1 : 1 ≤ K) (hK3 : K ≤ 3) :
    Calls Tryz.prog 7 #[.pointer (some ⟨D, 0, none⟩), .int .i64 (P : Int), .int .i64 (M : Int), .int .i64 (K : Int)] w (MadePost D P M K w) := by
  have HDl : Hid (D < w.heap.size) := hh.lt
  have hDw := hh.lt
  obtain ⟨wA, hwA⟩ : ∃ wA, w.alloc (.cells #[.int .i64 0, .int .i64 0, .slice none 0 0, .slice none 0 0, .slice none 0 0] 29) = wA := ⟨_, rfl⟩
  have hxA : Ext w wA := by rw [← hwA]; exact Ext.alloc (Ext.refl w) _
  have hzA : wA.heap.size = w.heap.size + 1 := by rw [← hwA]; simp
  have HA8 : Hid (wA.heap[w.heap.size]? = some (.cells #[.int .i64 0, .int .i64 0, .slice none 0 0, .slice none 0 0, .slice none 0 0] 29 (0, 0))) := by unfold Hid; rw [← hwA]; exact heap_alloc_new w _
  go_enter Tryz.func7, Tryz.ntmps7
  go_wp2_with fail
  try rw [hwA]
  clear hwA
  refine (from_any D 2 (P : Int) wA (hh.ext hxA) (by omega) (by omega) (by omega) (by omega)).mono ?_
  rintro e w1 ⟨pl, rfl, pl1, pl2, hb1, hh1⟩
  have hplP : pl ≤ P := by omega
  go_wp2_with fail
  refine (upto_any D (M : Int) w1 hh1 (by omega) (by omega)).mono ?_
  rintro e w2 ⟨mi, rfl, mi1, mi2, hb2, hh2⟩
  have hmiM : mi ≤ M := by omega
  obtain ⟨w3, hw3⟩ : ∃ w3, w2.alloc (.cells #[.int .i64 pl, .int .i64 mi, .slice none 0 0, .slice none 0 0, .slice none 0 0] 29) = w3 := ⟨_, rfl⟩
  have hx3 : Ext w2 w3 := by rw [← hw3]; exact Ext.alloc (Ext.refl _) _
  have hz3 : w3.heap.size = w2.heap.size + 1 := by rw [← hw3]; simp
  have hF3 : w3.heap[w2.heap.size]? = some (.cells #[.int .i64 pl, .int .i64 mi, .slice none 0 0, .slice none 0 0, .slice none 0 0] 29 (0, 0)) := by rw [← hw3]; exact heap_alloc_new w2 _
  obtain ⟨Bf, hBf⟩ : ∃ Bf, w2.heap.size = Bf := ⟨_, rfl⟩
  obtain ⟨B0, hB0⟩ : ∃ B0, w3.heap.size = B0 := ⟨_, rfl⟩
  have SF0 : FogSt D Bf B0 wA w3 ⟨pl, mi, [], [], []⟩ ⟨none, 0, none, 0, none, 0⟩ [] := by
    have h1 := hb1.size
    have h2 := hb2.size
    exact ⟨by rw [← hBf]; exact hF3, own_nil _ _ _ _, own_nil _ _ _ _, own_nil _ _ _ _, trivial, (hb1.trans hb2).trans hx3.bel, hh2.ext hx3, by omega, by omega, by omega, by omega, by omega⟩
  have hpl8 : pl ≤ 8 := by omega
  have HWL : Hid (IntKind.i64.wrap (pl - 1) = pl - 1) := IntWalk.i64_in _ ⟨by omega, by omega⟩
  have hBfw : w.heap.size < Bf := by have := hb1.size; have := hb2.size; omega
  have HW3 := hid hw3
  have HBF := hid hBf
  clear hb1 hh1 hb2 hh2 hx3 hF3 hw3 hBf hz3 hB0
  go_wp2
  rw [HW3.out, HBF.out]
  clear HW3 HBF
  go_loopw [10] (fun i10 wr => ∃ (p : Nat) (f : Fg) (s : Ads) (xs : List Value), i10 = .int .i64 (p : Int) ∧ FogSt D Bf B0 wA wr f s xs ∧ Hid (StF pl mi f) ∧ (p : Int) ≤ pl ∧ Hid (∀ t ∈ f.tr, t.1 < p ∧ t.2 < p) ∧ f.tr.length + 1 ≤ p ∧ Hid (f.bl.length = 0 ∧ f.ct.length = 0)) (fun i _ => pl.toNat - (intOf i).toNat)
  case atStart => exact ⟨1, ⟨pl, mi, [], [], []⟩, ⟨none, 0, none, 0, none, 0⟩, [], rfl, SF0, hid (StF.start pl mi), by omega, hid (fun t h => (by cases h)), Nat.le_refl _, ⟨rfl, rfl⟩⟩
  case round =>
    obtain ⟨p, f, s, xs, rfl, S, HS, hp, HTL, htl, HZ0⟩ := hrel
    by_cases hlt : (p : Int) < pl
    · obtain ⟨c0, c1, c2, c3, c4⟩ := S.cells
      rw [HS.out.epl] at c0
      go_wp2_with fail
      refine (once_any D 6 wr S.hp (by omega) (by omega)).mono ?_
      rintro e w4 ⟨bb, rfl, hb4, hh4⟩
      have S4 := S.deal hb4 hh4
      clear c0 c1 c2 c3 c4 S
      cases bb
      case true =>
        have HTL2 : Hid (∀ t ∈ f.tr, t.1 < ((p + 1 : Nat) : Int) ∧ t.2 < ((p + 1 : Nat) : Int)) := fun t ht => by have := HTL.out t ht; omega
        clear HTL
        go_wp2
        go_roundw
        case rel => exact ⟨p + 1, f, s, xs, by go_num, S4, HS, by omega, HTL2, by omega, HZ0⟩
        case measure => simp [intOf]; omega
      have FX : Hid (∀ w', (Bel D w4 w' ∧ HeapR w' D) → w'.cell? ⟨Bf, 0, none⟩ = some (.int .i64 pl) ∧ w'.cell? ⟨Bf, 1, none⟩ = some (.int .i64 mi) ∧ w'.cell? ⟨Bf, 2, none⟩ = some (.slice s.a1 f.tr.length s.c1) ∧ w'.cell? ⟨Bf, 3, none⟩ = some (.slice s.a2 f.bl.length s.c2) ∧ w'.cell? ⟨Bf, 4, none⟩ = some (.slice s.a3 f.ct.length s.c3)) := fun w' h => by
        have q := (S4.deal h.1 h.2).cells
        rw [HS.out.epl, HS.out.emi] at q
        exact q
      have HWP : Hid (IntKind.i64.wrap ((p : Int) - 1) = (p : Int) - 1) := IntWalk.i64_in _ ⟨by omega, by omega⟩
      go_wp2
      refine wp_region_shut_tail (Deal D) (fun w' => Bel D w4 w' ∧ HeapR w' D) (fun
        | 7 => some (fun v _ => ∃ y : Int, v = .int .i64 y ∧ 0 ≤ y ∧ y ≤ (p : Int) - 1)
        | 9 => some (fun v w' => ∃ (g : Nat) (y : Int), v = .slice (some ⟨g, 0, none⟩) 1 1 ∧ D < g ∧ Rd w' (some ⟨g, 0, none⟩) [.int .i64 (p : Int), .int .i64 y] ∧ 0 ≤ y ∧ y ≤ (p : Int) - 1)
        | _ => none) 10 (by kernel_rfl) (by kernel_rfl) (deal_up2 D w4) ?hTa ⟨(Bel.refl D w4).drew, hh4.ext (Ext.drew (Ext.refl _))⟩ ?_
      case hTa =>
        intro i R hR
        match i, hR with
        | 7, hR => cases hR; exact fun _ _ _ h _ => h
        | 9, hR => cases hR; exact fun _ _ _ ⟨g, y, h1, h2, h3, h4⟩ k => ⟨g, y, h1, h2, k.1.rd h3 (fun a ha => by cases ha; show g ≠ D; omega), h4⟩
      refine wM_val ?ua0 rfl rfl (Deal.refl D) (fun w' hD => ?ha0) (fun pha0 => ?na0)
      case ha0 =>
        obtain ⟨c0, c1, c2, c3, c4⟩ := FX.out w' hD.1
        go_simp; rfl
      simp only [Act.put, List.setIfInBounds_toArray, List.set_cons_succ, List.set_cons_zero, Nat.reduceAdd]
      refine wM_val ?ua1 rfl rfl (Deal.refl D) (fun w' hD => ?ha1) (fun pha1 => ?na1)
      case ha1 =>
        obtain ⟨c0, c1, c2, c3, c4⟩ := FX.out w' hD.1
        go_simp; rfl
      simp only [Act.put, List.setIfInBounds_toArray, List.set_cons_succ, List.set_cons_zero, Nat.reduceAdd]
      refine wM_val ?ua2 rfl rfl (Deal.refl D) (fun w' hD => ?ha2) (fun pha2 => ?na2)
      case ha2 =>
        obtain ⟨c0, c1, c2, c3, c4⟩ := FX.out w' hD.1
        go_simp; rfl
      simp only [Act.put, List.setIfInBounds_toArray, List.set_cons_succ, List.set_cons_zero, Nat.reduceAdd]
      refine wM_val ?ua3 rfl rfl (Deal.refl D) (fun w' hD => ?ha3) (fun pha3 => ?na3)
      case ha3 =>
        obtain ⟨c0, c1, c2, c3, c4⟩ := FX.out w' hD.1
        go_simp; rfl
      simp only [Act.put, List.setIfInBounds_toArray, List.set_cons_succ, List.set_cons_zero, Nat.reduceAdd]
      refine wM_val ?ua4 rfl rfl (Deal.refl D) (fun w' hD => ?ha4) (fun pha4 => ?na4)
      case ha4 =>
        obtain ⟨c0, c1, c2, c3, c4⟩ := FX.out w' hD.1
        go_simp; rfl
      simp only [Act.put, List.setIfInBounds_toArray, List.set_cons_succ, List.set_cons_zero, Nat.reduceAdd]
      refine wM_val ?ua5 rfl rfl (Deal.refl D) (fun w' hD => ?ha5) (fun pha5 => ?na5)
      case ha5 =>
        obtain ⟨c0, c1, c2, c3, c4⟩ := FX.out w' hD.1
        go_simp; rfl
      simp only [Act.put, List.setIfInBounds_toArray, List.set_cons_succ, List.set_cons_zero, Nat.reduceAdd]
      refine wM_val ?ua6 rfl rfl (Deal.refl D) (fun w' hD => ?ha6) (fun pha6 => ?na6)
      case ha6 =>
        obtain ⟨c0, c1, c2, c3, c4⟩ := FX.out w' hD.1
        go_simp; rfl
      simp only [Act.put, List.setIfInBounds_toArray, List.set_cons_succ, List.set_cons_zero, Nat.reduceAdd]
      try rw [HWP.out]
      refine wM_op _ rfl rfl (opens_call ?fa7 ?ga7 (fun w' hD => ?ha7) (fun w' hD => ?ca7)) (fun v7 hv7 => ?na7)
      case ha7 => go_simp; constructor <;> rfl
      case ca7 =>
        refine (upto_any D ((p : Int) - 1) w' hD.1.2 (by omega) (by omega)).mono ?_
        rintro e w2 ⟨r, rfl, r1, r2, hb, hh⟩
        exact ⟨_, rfl, Deal.mk' hb hh, r, rfl, r1, by omega⟩
      obtain ⟨_, -, -, y, rfl, y1, y2⟩ := hv7
      simp only [Act.put, List.setIfInBounds_toArray, List.set_cons_succ, List.set_cons_zero, Nat.reduceAdd]
      refine wM_val ?ua8 rfl rfl (Deal.refl D) (fun w' hD => ?ha8) (fun pha8 => ?na8)
      case ha8 =>
        obtain ⟨c0, c1, c2, c3, c4⟩ := FX.out w' hD.1
        go_simp; rfl
      simp only [Act.put, List.setIfInBounds_toArray, List.set_cons_succ, List.set_cons_zero, Nat.reduceAdd]
      refine wM_op _ rfl rfl (opens_val (fun w' hD => ?ha9)) (fun v9 hv9 => ?na9)
      case ha9 =>
        refine ⟨.slice (some ⟨w'.heap.size, 0, none⟩) 1 1, w'.alloc (.cells #[.int .i64 (p : Int), .int .i64 y] 78), ?_, Deal.ext (Ext.alloc (Ext.refl _) _), w'.heap.size, y, rfl, hD.1.2.lt, rd_blk (heap_alloc_new w' _), y1, y2⟩
        go_simp
      obtain ⟨_, -, -, g9, y9, rfl, -⟩ := hv9
      simp only [Act.put, List.setIfInBounds_toArray, List.set_cons_succ, List.set_cons_zero, Nat.reduceAdd]
      refine wM_nil ?_
      intro w9 hw9 hF9
      obtain ⟨-, g3, y3, e3, hg3, hc3, hy3, hy4⟩ := hF9 9
      cases e3
      clear hF9 FX
      have S9 := S4.deal hw9.1 hw9.2
      try simp only [List.drop_succ_cons, List.drop_zero]
      refine wpList_append_rd2 _ rfl _ _ 23 rfl elem_pair B0 (.slice s.a1 f.tr.length s.c1) f.tr.length (layPr.rows f.tr) rfl S9.tr _ 1 1 [.int .i64 (p : Int), .int .i64 y3] rfl rfl hc3 (by intro u hu; simp at hu; first | (subst hu; rfl) | (rcases hu with rfl | rfl <;> rfl) | (rcases hu with rfl | rfl | rfl <;> rfl)) (by omega) S9.lo.2.2.2.2 ?_
      intro A5 c5 w5 hown5 hbel5 hgr5 hat5
      have hS5 : BelS (fun k => (Value.slice s.a1 f.tr.length s.c1).ownBlock = some k) w9 w5 := (BelS.refl _ w9).grown hgr5 (fun k e => e)
      have SN := S9.addTr hS5 ((p : Int), y3) hown5
      have h5b : w5.heap[Bf]? = some (.cells (mcells f s) 29 (0, 0)) := hS5.heap S9.blk (fun e => by have := (S9.tr.lt _ e).1; have := S9.lo; omega)
      have p5 := block_cell (i := 2) h5b
      have f5 := blk_free (i := 2) h5b
      simp only [mcells, List.getElem?_toArray, List.getElem?_cons_zero, List.getElem?_cons_succ] at p5
      have HSN := hid SN
      clear hown5 hbel5 hgr5 hat5 h5b SN hS5
      have HS2 := hid (HS.out.addTr (HS.out.tr.tree HTL.out hy3 (by omega) hlt))
      have HTL2 : Hid (∀ t ∈ f.tr ++ [((p : Int), y3)], t.1 < ((p + 1 : Nat) : Int) ∧ t.2 < ((p + 1 : Nat) : Int)) := fun t ht => by
        rcases List.mem_append.1 ht with ht | ht
        · have := HTL.out t ht; omega
        · simp only [List.mem_singleton] at ht; subst ht; dsimp only; omega
      clear HTL HS S4 S9 hw9
      go_wp2
      go_roundw
      case rel => exact ⟨p + 1, _, _, xs, by go_num, HSN.out, HS2, by omega, HTL2, by simp; omega, HZ0⟩
      case measure => simp [intOf]; omega
    · have hlt' : ¬ (p : Int) < pl := hlt
      clear HTL
      obtain ⟨c0, c1, c2, c3, c4⟩ := S.cells
      rw [HS.out.epl] at c0
      go_wp2_with fail
      clear c0 c1 c2 c3 c4
      refine (upto_any D 4 wr S.hp (by omega) (by omega)).mono ?_
      rintro e w4 ⟨n4, rfl, n40, n41, hb4, hh4⟩
      have S0 := S.deal hb4 hh4
      obtain ⟨nn, rfl⟩ : ∃ nn : Nat, n4 = nn := ⟨n4.toNat, by omega⟩
      have hnn : nn ≤ 4 := by omega
      have htl7 : f.tr.length ≤ 7 := by omega
      clear S hb4 hh4 hlt hlt'
      go_wp2
      go_loopw [48] (fun i48 wr => ∃ (k : Nat) (f : Fg) (s : Ads) (xs : List Value), i48 = .int .i64 (k : Int) ∧ k ≤ nn ∧ FogSt D Bf B0 wA wr f s xs ∧ Hid (StF pl mi f) ∧ f.tr.length ≤ 7 + k ∧ Hid (f.bl.length = 0 ∧ f.ct.length = 0)) (fun i _ => nn - (intOf i).toNat)
      case atStart => exact ⟨0, f, s, xs, rfl, Nat.zero_le _, S0, HS, by omega, HZ0⟩
      case round =>
        clear S0 HS HZ0 htl htl7
        obtain ⟨k, f, s, xs, rfl, hk, S4, HS, htl, HZ0⟩ := hrel
        obtain ⟨w4, hw4⟩ : ∃ w4 : World, w4 = wr := ⟨_, rfl⟩
        subst hw4
        by_cases hlt : k < nn
        · have hlt' : (k : Int) < (nn : Int) := by omega
          have hh4 := S4.hp
          have FX : Hid (∀ w', (Bel D w4 w' ∧ HeapR w' D) → w'.cell? ⟨Bf, 0, none⟩ = some (.int .i64 pl) ∧ w'.cell? ⟨Bf, 1, none⟩ = some (.int .i64 mi) ∧ w'.cell? ⟨Bf, 2, none⟩ = some (.slice s.a1 f.tr.length s.c1) ∧ w'.cell? ⟨Bf, 3, none⟩ = some (.slice s.a2 f.bl.length s.c2) ∧ w'.cell? ⟨Bf, 4, none⟩ = some (.slice s.a3 f.ct.length s.c3)) := fun w' h => by
            have q := (S4.deal h.1 h.2).cells
            rw [HS.out.epl, HS.out.emi] at q
            exact q
          go_wp2
          refine wp_region_shut_tail (Deal D) (fun w' => Bel D w4 w' ∧ HeapR w' D) (fun
            | 5 => some (fun v _ => ∃ y : Int, v = .int .i64 y ∧ 0 ≤ y ∧ y < pl)
            | 11 => some (fun v _ => ∃ y : Int, v = .int .i64 y ∧ 0 ≤ y ∧ y < pl)
            | 13 => some (fun v w' => ∃ (g : Nat), v = .pointer (some ⟨g, 0, none⟩) ∧ w4.heap.size ≤ g ∧ w'.heap[g]? = some (.cells #[.int .i64 0, .int .i64 0] 78 (0, 0)))
            | _ => none) 14 (by kernel_rfl) (by kernel_rfl) (deal_up2 D w4) ?hTb ⟨(Bel.refl D w4).drew, hh4.ext (Ext.drew (Ext.refl _))⟩ ?_
          case hTb =>
            intro i R hR
            match i, hR with
            | 5, hR => cases hR; exact fun _ _ _ h _ => h
            | 11, hR => cases hR; exact fun _ _ _ h _ => h
            | 13, hR => cases hR; exact fun _ _ _ ⟨g, h1, h2, h3⟩ k => ⟨g, h1, h2, k.1.heap h3 (fun e => by have := hh4.lt; omega)⟩
          refine wM_val ?ub0 rfl rfl (Deal.refl D) (fun w' hD => ?hb0) (fun phb0 => ?nb0)
          case hb0 =>
            obtain ⟨c0, c1, c2, c3, c4⟩ := FX.out w' hD.1
            go_simp; rfl
          simp only [Act.put, List.setIfInBounds_toArray, List.set_cons_succ, List.set_cons_zero, Nat.reduceAdd]
          refine wM_val ?ub1 rfl rfl (Deal.refl D) (fun w' hD => ?hb1) (fun phb1 => ?nb1)
          case hb1 =>
            obtain ⟨c0, c1, c2, c3, c4⟩ := FX.out w' hD.1
            go_simp; rfl
          simp only [Act.put, List.setIfInBounds_toArray, List.set_cons_succ, List.set_cons_zero, Nat.reduceAdd]
          refine wM_val ?ub2 rfl rfl (Deal.refl D) (fun w' hD => ?hb2) (fun phb2 => ?nb2)
          case hb2 =>
            obtain ⟨c0, c1, c2, c3, c4⟩ := FX.out w' hD.1
            go_simp; rfl
          simp only [Act.put, List.setIfInBounds_toArray, List.set_cons_succ, List.set_cons_zero, Nat.reduceAdd]
          refine wM_val ?ub3 rfl rfl (Deal.refl D) (fun w' hD => ?hb3) (fun phb3 => ?nb3)
          case hb3 =>
            obtain ⟨c0, c1, c2, c3, c4⟩ := FX.out w' hD.1
            go_simp; rfl
          simp only [Act.put, List.setIfInBounds_toArray, List.set_cons_succ, List.set_cons_zero, Nat.reduceAdd]
          refine wM_val ?ub4 rfl rfl (Deal.refl D) (fun w' hD => ?hb4) (fun phb4 => ?nb4)
          case hb4 =>
            obtain ⟨c0, c1, c2, c3, c4⟩ := FX.out w' hD.1
            go_simp; rfl
          simp only [Act.put, List.setIfInBounds_toArray, List.set_cons_succ, List.set_cons_zero, Nat.reduceAdd]
          try rw [HWL.out]
          refine wM_op _ rfl rfl (opens_call ?fb5 ?gb5 (fun w' hD => ?hb5) (fun w' hD => ?cb5)) (fun v5 hv5 => ?nb5)
          case hb5 => go_simp; constructor <;> rfl
          case cb5 =>
            refine (upto_any D (pl - 1) w' hD.1.2 (by omega) (by omega)).mono ?_
            rintro e w2 ⟨r, rfl, r1, r2, hb, hh⟩
            exact ⟨_, rfl, Deal.mk' hb hh, r, rfl, r1, by omega⟩
          obtain ⟨_, -, -, x, rfl, x1, x2⟩ := hv5
          simp only [Act.put, List.setIfInBounds_toArray, List.set_cons_succ, List.set_cons_zero, Nat.reduceAdd]
          refine wM_val ?ub6 rfl rfl (Deal.refl D) (fun w' hD => ?hb6) (fun phb6 => ?nb6)
          case hb6 =>
            obtain ⟨c0, c1, c2, c3, c4⟩ := FX.out w' hD.1
            go_simp; rfl
          simp only [Act.put, List.setIfInBounds_toArray, List.set_cons_succ, List.set_cons_zero, Nat.reduceAdd]
          refine wM_val ?ub7 rfl rfl (Deal.refl D) (fun w' hD => ?hb7) (fun phb7 => ?nb7)
          case hb7 =>
            obtain ⟨c0, c1, c2, c3, c4⟩ := FX.out w' hD.1
            go_simp; rfl
          simp only [Act.put, List.setIfInBounds_toArray, List.set_cons_succ, List.set_cons_zero, Nat.reduceAdd]
          refine wM_val ?ub8 rfl rfl (Deal.refl D) (fun w' hD => ?hb8) (fun phb8 => ?nb8)
          case hb8 =>
            obtain ⟨c0, c1, c2, c3, c4⟩ := FX.out w' hD.1
            go_simp; rfl
          simp only [Act.put, List.setIfInBounds_toArray, List.set_cons_succ, List.set_cons_zero, Nat.reduceAdd]
          refine wM_val ?ub9 rfl rfl (Deal.refl D) (fun w' hD => ?hb9) (fun phb9 => ?nb9)
          case hb9 =>
            obtain ⟨c0, c1, c2, c3, c4⟩ := FX.out w' hD.1
            go_simp; rfl
          simp only [Act.put, List.setIfInBounds_toArray, List.set_cons_succ, List.set_cons_zero, Nat.reduceAdd]
          refine wM_val ?ub10 rfl rfl (Deal.refl D) (fun w' hD => ?hb10) (fun phb10 => ?nb10)
          case hb10 =>
            obtain ⟨c0, c1, c2, c3, c4⟩ := FX.out w' hD.1
            go_simp; rfl
          simp only [Act.put, List.setIfInBounds_toArray, List.set_cons_succ, List.set_cons_zero, Nat.reduceAdd]
          try rw [HWL.out]
          refine wM_op _ rfl rfl (opens_call ?fb11 ?gb11 (fun w' hD => ?hb11) (fun w' hD => ?cb11)) (fun v11 hv11 => ?nb11)
          case hb11 => go_simp; constructor <;> rfl
          case cb11 =>
            refine (upto_any D (pl - 1) w' hD.1.2 (by omega) (by omega)).mono ?_
            rintro e w2 ⟨r, rfl, r1, r2, hb, hh⟩
            exact ⟨_, rfl, Deal.mk' hb hh, r, rfl, r1, by omega⟩
          obtain ⟨_, -, -, y, rfl, y1, y2⟩ := hv11
          simp only [Act.put, List.setIfInBounds_toArray, List.set_cons_succ, List.set_cons_zero, Nat.reduceAdd]
          refine wM_val ?ub12 rfl rfl (Deal.refl D) (fun w' hD => ?hb12) (fun phb12 => ?nb12)
          case hb12 =>
            obtain ⟨c0, c1, c2, c3, c4⟩ := FX.out w' hD.1
            go_simp; rfl
          simp only [Act.put, List.setIfInBounds_toArray, List.set_cons_succ, List.set_cons_zero, Nat.reduceAdd]
          refine wM_op _ rfl rfl (opens_val (fun w' hD => ?hb13)) (fun v13 hv13 => ?nb13)
          case hb13 =>
            refine ⟨.pointer (some ⟨w'.heap.size, 0, none⟩), w'.alloc (.cells #[.int .i64 0, .int .i64 0] 78), ?_, Deal.ext (Ext.alloc (Ext.refl _) _), w'.heap.size, rfl, hD.1.1.size, heap_alloc_new w' _⟩
            go_simp
          obtain ⟨_, -, -, Bt, rfl, -⟩ := hv13
          simp only [Act.put, List.setIfInBounds_toArray, List.set_cons_succ, List.set_cons_zero, Nat.reduceAdd]
          refine wM_nil ?_
          intro w9 hw9 hF9
          obtain ⟨-, g3, e3, hg3, hc3⟩ := hF9 13
          cases e3
          clear hF9 FX
          have p0 := block_cell (i := 0) hc3
          have p1 := block_cell (i := 1) hc3
          have fz0 := blk_free (i := 0) hc3
          have fz1 := blk_free (i := 1) hc3
          simp only [List.getElem?_toArray, List.getElem?_cons_zero, List.getElem?_cons_succ] at p0 p1
          have hDl := hh4.lt
          obtain ⟨wX, hwX⟩ : ∃ wX, (w9.setCell ⟨Bt, 0, none⟩ (.int .i64 x)).setCell ⟨Bt, 1, none⟩ (.int .i64 y) = wX := ⟨_, rfl⟩
          have hbX : Bel D w4 wX := by rw [← hwX]; exact (hw9.1.setNew _ _ hg3).setNew _ _ hg3
          have hhX : HeapR wX D := by
            have hsx : BelS (fun k => k = Bt) w9 wX := by rw [← hwX]; exact ((BelS.refl _ w9).setCell (S := fun k => k = Bt) ⟨Bt, 0, none⟩ _ rfl).setCell ⟨Bt, 1, none⟩ _ rfl
            exact hw9.2.belS hsx (fun k hk e => by omega)
          have S5 := S4.deal hbX hhX
          have HZ : Hid (wX.heap[Bt]? = some (.cells #[.int .i64 x, .int .i64 y] 78 (0, 0))) := by
            unfold Hid
            rw [← hwX]
            have := heap_set (heap_set hc3 (i := 0) (.int .i64 x)) (i := 1) (.int .i64 y)
            simpa using this
          have z0 := block_cell (i := 0) HZ.out
          have z1 := block_cell (i := 1) HZ.out
          simp only [List.getElem?_toArray, List.getElem?_cons_zero, List.getElem?_cons_succ] at z0 z1
          obtain ⟨c0, c1, c2, c3, c4⟩ := S5.cells
          rw [HS.out.epl] at c0
          rw [HS.out.emi] at c1
          by_cases hxy : x = y
          · have bxy : (x != y) = false := by simp [hxy]
            have hxyH := hid hxy
            clear hxy
            go_wp2
            try rw [hwX]
            go_roundw
            case rel => exact ⟨k + 1, f, s, xs, by go_num, by omega, S5, HS, by omega, HZ0⟩
            case measure => simp [intOf]; omega
          have bxy : (x != y) = true := by simpa using hxy
          have HXY := hid hxy
          have KB := lbeside_any _ f x y wX S5.fg (by omega)
          unfold Ads.val fval at KB
          rw [HS.out.epl, HS.out.emi] at KB
          obtain ⟨BS, hBS⟩ : ∃ BS, besideL f.tr x y = BS := ⟨_, rfl⟩
          rw [hBS] at KB
          have HBS := hid hBS
          have HKB := hid KB
          clear KB hBS hxy
          go_wp2_with fail
          try rw [hwX]
          clear hwX p0 p1 fz0 fz1 hc3 hw9 z0 z1 c0 c1 c2 c3 c4 S4
          refine HKB.out.mono ?_
          clear HKB
          rintro e w6 ⟨rfl, h6⟩
          have S4 := S5.ext h6
          have hh6 := S4.hp
          have HZ6 : Hid (w6.heap[Bt]? = some (.cells #[.int .i64 x, .int .i64 y] 78 (0, 0))) := (Below.block h6 Bt (Array.getElem?_eq_some_iff.1 HZ.out).1).trans HZ.out
          clear HZ S5 h6
          cases BS
          case true =>
            go_wp2
            go_roundw
            case rel => exact ⟨k + 1, f, s, xs, by go_num, by omega, S4, HS, by omega, HZ0⟩
            case measure => simp [intOf]; omega
          have hBD : Bt ≠ D := by omega
          obtain ⟨c0, c1, c2, c3, c4⟩ := S4.cells
          have z0 := block_cell (i := 0) HZ6.out
          have z1 := block_cell (i := 1) HZ6.out
          simp only [List.getElem?_toArray, List.getElem?_cons_zero, List.getElem?_cons_succ] at z0 z1
          have S9 := S4.ext (Ext.alloc (Ext.refl w6) (.cells #[.int .i64 x, .int .i64 y] 78))
          go_wp2_with (at_builtin; refine wpList_append_rd2 _ rfl _ _ 23 rfl elem_pair B0 (.slice s.a1 f.tr.length s.c1) f.tr.length (layPr.rows f.tr) rfl S9.tr _ 1 1 [.int .i64 x, .int .i64 y] rfl rfl (rd_blk (heap_alloc_new w6 _)) (by intro u hu; simp at hu; first | (subst hu; rfl) | (rcases hu with rfl | rfl <;> rfl) | (rcases hu with rfl | rfl | rfl <;> rfl)) (by omega) S9.lo.2.2.2.2 ?_)
          intro A5 c5 w5 hown5 hbel5 hgr5 hat5
          have hS5 : BelS (fun k => (Value.slice s.a1 f.tr.length s.c1).ownBlock = some k) (w6.alloc (.cells #[.int .i64 x, .int .i64 y] 78)) w5 := (BelS.refl _ (w6.alloc (.cells #[.int .i64 x, .int .i64 y] 78))).grown hgr5 (fun k e => e)
          have SN := S9.addTr hS5 (x, y) hown5
          have h5b : w5.heap[Bf]? = some (.cells (mcells f s) 29 (0, 0)) := hS5.heap S9.blk (fun e => by have := (S9.tr.lt _ e).1; have := S9.lo; omega)
          have p5 := block_cell (i := 2) h5b
          have f5 := blk_free (i := 2) h5b
          simp only [mcells, List.getElem?_toArray, List.getElem?_cons_zero, List.getElem?_cons_succ] at p5
          have HSN := hid SN
          clear hown5 hbel5 hgr5 hat5 h5b SN hS5
          have HS2 := hid (HS.out.addTr (HS.out.tr.snoc (t := (x, y)) ⟨by dsimp only; omega, by dsimp only; omega, HXY.out⟩ (by rw [besideL_same]; exact HBS.out)))
          clear HS S4 S9 c0 c1 c2 c3 c4 z0 z1
          go_wp2
          go_roundw
          case rel => exact ⟨k + 1, _, _, xs, by go_num, by omega, HSN.out, HS2, by simp; omega, HZ0⟩
          case measure => simp [intOf]; omega
        · have hlt' : ¬ (k : Int) < (nn : Int) := by omega
          go_wp2_with fail
          refine (upto_any D 8 w4 S4.hp (by omega) (by omega)).mono ?_
          rintro e w5 ⟨n4, rfl, n40, n41, hb5, hh5⟩
          have S0 := S4.deal hb5 hh5
          obtain ⟨nb, rfl⟩ : ∃ nb : Nat, n4 = nb := ⟨n4.toNat, by omega⟩
          have hnb : nb ≤ 8 := by omega
          have htl14 : f.tr.length ≤ 14 := by omega
          clear S4 hb5 hh5 hlt hlt'
          go_wp2
          go_loopw [88] (fun i88 wr => ∃ (k : Nat) (f : Fg) (s : Ads) (xs : List Value), i88 = .int .i64 (k : Int) ∧ k ≤ nb ∧ FogSt D Bf B0 wA wr f s xs ∧ Hid (StF pl mi f) ∧ f.tr.length ≤ 14 ∧ f.bl.length ≤ k ∧ Hid (f.ct.length = 0)) (fun i _ => nb - (intOf i).toNat)
          case atStart => exact ⟨0, f, s, xs, rfl, Nat.zero_le _, S0, HS, htl14, Nat.le_of_eq HZ0.out.1, HZ0.out.2⟩
          case round =>
            clear S0 HS HZ0 htl htl14
            obtain ⟨k, f, s, xs, rfl, hk, S4, HS, htl, hbl, HZ0⟩ := hrel
            obtain ⟨w4, hw4⟩ : ∃ w4 : World, w4 = wr := ⟨_, rfl⟩
            subst hw4
            by_cases hlt : k < nb
            · have hlt' : (k : Int) < (nb : Int) := by omega
              have hh4 := S4.hp
              have FX : Hid (∀ w', (Bel D w4 w' ∧ HeapR w' D) → w'.cell? ⟨Bf, 0, none⟩ = some (.int .i64 pl) ∧ w'.cell? ⟨Bf, 1, none⟩ = some (.int .i64 mi) ∧ w'.cell? ⟨Bf, 2, none⟩ = some (.slice s.a1 f.tr.length s.c1) ∧ w'.cell? ⟨Bf, 3, none⟩ = some (.slice s.a2 f.bl.length s.c2) ∧ w'.cell? ⟨Bf, 4, none⟩ = some (.slice s.a3 f.ct.length s.c3)) := fun w' h => by
                have q := (S4.deal h.1 h.2).cells
                rw [HS.out.epl, HS.out.emi] at q
                exact q
              go_wp2
              refine wp_region_shut_tail (Deal D) (fun w' => Bel D w4 w' ∧ HeapR w' D) (fun
                | 6 => some (fun v _ => ∃ y : Int, v = .int .i64 y ∧ 0 ≤ y ∧ y ≤ mi)
                | 12 => some (fun v _ => ∃ y : Int, v = .int .i64 y ∧ 0 ≤ y ∧ y < pl)
                | 14 => some (fun v _ => ∃ y : Int, v = .int .i64 y ∧ 0 ≤ y ∧ y ≤ 3)
                | 16 => some (fun v w' => ∃ (g : Nat) (x y z : Int), v = .slice (some ⟨g, 0, none⟩) 1 1 ∧ D < g ∧ Rd w' (some ⟨g, 0, none⟩) [.int .i64 x, .int .i64 y, .int .i64 z] ∧ (0 ≤ x ∧ x ≤ mi) ∧ (0 ≤ y ∧ y < pl) ∧ 0 ≤ z ∧ z ≤ 3)
                | _ => none) 17 (by kernel_rfl) (by kernel_rfl) (deal_up2 D w4) ?hTd ⟨(Bel.refl D w4).drew, hh4.ext (Ext.drew (Ext.refl _))⟩ ?_
              case hTd =>
                intro i R hR
                match i, hR with
                | 6, hR => cases hR; exact fun _ _ _ h _ => h
                | 12, hR => cases hR; exact fun _ _ _ h _ => h
                | 14, hR => cases hR; exact fun _ _ _ h _ => h
                | 16, hR => cases hR; exact fun _ _ _ ⟨g, x, y, z, h1, h2, h3, h4⟩ k => ⟨g, x, y, z, h1, h2, k.1.rd h3 (fun a ha => by cases ha; show g ≠ D; omega), h4⟩
              refine wM_val ?ud0 rfl rfl (Deal.refl D) (fun w' hD => ?hd0) (fun phd0 => ?nd0)
              case hd0 =>
                obtain ⟨c0, c1, c2, c3, c4⟩ := FX.out w' hD.1
                go_simp; rfl
              simp only [Act.put, List.setIfInBounds_toArray, List.set_cons_succ, List.set_cons_zero, Nat.reduceAdd]
              refine wM_val ?ud1 rfl rfl (Deal.refl D) (fun w' hD => ?hd1) (fun phd1 => ?nd1)
              case hd1 =>
                obtain ⟨c0, c1, c2, c3, c4⟩ := FX.out w' hD.1
                go_simp; rfl
              simp only [Act.put, List.setIfInBounds_toArray, List.set_cons_succ, List.set_cons_zero, Nat.reduceAdd]
              refine wM_val ?ud2 rfl rfl (Deal.refl D) (fun w' hD => ?hd2) (fun phd2 => ?nd2)
              case hd2 =>
                obtain ⟨c0, c1, c2, c3, c4⟩ := FX.out w' hD.1
                go_simp; rfl
              simp only [Act.put, List.setIfInBounds_toArray, List.set_cons_succ, List.set_cons_zero, Nat.reduceAdd]
              refine wM_val ?ud3 rfl rfl (Deal.refl D) (fun w' hD => ?hd3) (fun phd3 => ?nd3)
              case hd3 =>
                obtain ⟨c0, c1, c2, c3, c4⟩ := FX.out w' hD.1
                go_simp; rfl
              simp only [Act.put, List.setIfInBounds_toArray, List.set_cons_succ, List.set_cons_zero, Nat.reduceAdd]
              refine wM_val ?ud4 rfl rfl (Deal.refl D) (fun w' hD => ?hd4) (fun phd4 => ?nd4)
              case hd4 =>
                obtain ⟨c0, c1, c2, c3, c4⟩ := FX.out w' hD.1
                go_simp; rfl
              simp only [Act.put, List.setIfInBounds_toArray, List.set_cons_succ, List.set_cons_zero, Nat.reduceAdd]
              refine wM_val ?ud5 rfl rfl (Deal.refl D) (fun w' hD => ?hd5) (fun phd5 => ?nd5)
              case hd5 =>
                obtain ⟨c0, c1, c2, c3, c4⟩ := FX.out w' hD.1
                go_simp; rfl
              simp only [Act.put, List.setIfInBounds_toArray, List.set_cons_succ, List.set_cons_zero, Nat.reduceAdd]
              refine wM_op _ rfl rfl (opens_call ?fd6 ?gd6 (fun w' hD => ?hd6) (fun w' hD => ?cd6)) (fun v6 hv6 => ?nd6)
              case hd6 => go_simp; constructor <;> rfl
              case cd6 =>
                refine (upto_any D mi w' hD.1.2 (by omega) (by omega)).mono ?_
                rintro e w2 ⟨r, rfl, r1, r2, hb, hh⟩
                exact ⟨_, rfl, Deal.mk' hb hh, r, rfl, r1, by omega⟩
              obtain ⟨_, -, -, x, rfl, x1, x2⟩ := hv6
              simp only [Act.put, List.setIfInBounds_toArray, List.set_cons_succ, List.set_cons_zero, Nat.reduceAdd]
              refine wM_val ?ud7 rfl rfl (Deal.refl D) (fun w' hD => ?hd7) (fun phd7 => ?nd7)
              case hd7 =>
                obtain ⟨c0, c1, c2, c3, c4⟩ := FX.out w' hD.1
                go_simp; rfl
              simp only [Act.put, List.setIfInBounds_toArray, List.set_cons_succ, List.set_cons_zero, Nat.reduceAdd]
              refine wM_val ?ud8 rfl rfl (Deal.refl D) (fun w' hD => ?hd8) (fun phd8 => ?nd8)
              case hd8 =>
                obtain ⟨c0, c1, c2, c3, c4⟩ := FX.out w' hD.1
                go_simp; rfl
              simp only [Act.put, List.setIfInBounds_toArray, List.set_cons_succ, List.set_cons_zero, Nat.reduceAdd]
              refine wM_val ?ud9 rfl rfl (Deal.refl D) (fun w' hD => ?hd9) (fun phd9 => ?nd9)
              case hd9 =>
                obtain ⟨c0, c1, c2, c3, c4⟩ := FX.out w' hD.1
                go_simp; rfl
              simp only [Act.put, List.setIfInBounds_toArray, List.set_cons_succ, List.set_cons_zero, Nat.reduceAdd]
              refine wM_val ?ud10 rfl rfl (Deal.refl D) (fun w' hD => ?hd10) (fun phd10 => ?nd10)
              case hd10 =>
                obtain ⟨c0, c1, c2, c3, c4⟩ := FX.out w' hD.1
                go_simp; rfl
              simp only [Act.put, List.setIfInBounds_toArray, List.set_cons_succ, List.set_cons_zero, Nat.reduceAdd]
              refine wM_val ?ud11 rfl rfl (Deal.refl D) (fun w' hD => ?hd11) (fun phd11 => ?nd11)
              case hd11 =>
                obtain ⟨c0, c1, c2, c3, c4⟩ := FX.out w' hD.1
                go_simp; rfl
              simp only [Act.put, List.setIfInBounds_toArray, List.set_cons_succ, List.set_cons_zero, Nat.reduceAdd]
              try rw [HWL.out]
              refine wM_op _ rfl rfl (opens_call ?fd12 ?gd12 (fun w' hD => ?hd12) (fun w' hD => ?cd12)) (fun v12 hv12 => ?nd12)
              case hd12 => go_simp; constructor <;> rfl
              case cd12 =>
                refine (upto_any D (pl - 1) w' hD.1.2 (by omega) (by omega)).mono ?_
                rintro e w2 ⟨r, rfl, r1, r2, hb, hh⟩
                exact ⟨_, rfl, Deal.mk' hb hh, r, rfl, r1, by omega⟩
              obtain ⟨_, -, -, y, rfl, y1, y2⟩ := hv12
              simp only [Act.put, List.setIfInBounds_toArray, List.set_cons_succ, List.set_cons_zero, Nat.reduceAdd]
              refine wM_val ?ud13 rfl rfl (Deal.refl D) (fun w' hD => ?hd13) (fun phd13 => ?nd13)
              case hd13 =>
                obtain ⟨c0, c1, c2, c3, c4⟩ := FX.out w' hD.1
                go_simp; rfl
              simp only [Act.put, List.setIfInBounds_toArray, List.set_cons_succ, List.set_cons_zero, Nat.reduceAdd]
              refine wM_op _ rfl rfl (opens_call ?fd14 ?gd14 (fun w' hD => ?hd14) (fun w' hD => ?cd14)) (fun v14 hv14 => ?nd14)
              case hd14 => go_simp; constructor <;> rfl
              case cd14 =>
                refine (upto_any D 3 w' hD.1.2 (by omega) (by omega)).mono ?_
                rintro e w2 ⟨r, rfl, r1, r2, hb, hh⟩
                exact ⟨_, rfl, Deal.mk' hb hh, r, rfl, r1, by omega⟩
              obtain ⟨_, -, -, z, rfl, z1, z2⟩ := hv14
              simp only [Act.put, List.setIfInBounds_toArray, List.set_cons_succ, List.set_cons_zero, Nat.reduceAdd]
              refine wM_val ?ud15 rfl rfl (Deal.refl D) (fun w' hD => ?hd15) (fun phd15 => ?nd15)
              case hd15 =>
                obtain ⟨c0, c1, c2, c3, c4⟩ := FX.out w' hD.1
                go_simp; rfl
              simp only [Act.put, List.setIfInBounds_toArray, List.set_cons_succ, List.set_cons_zero, Nat.reduceAdd]
              refine wM_op _ rfl rfl (opens_val (fun w' hD => ?hd16)) (fun v16 hv16 => ?nd16)
              case hd16 =>
                refine ⟨.slice (some ⟨w'.heap.size, 0, none⟩) 1 1, w'.alloc (.cells #[.int .i64 x, .int .i64 y, .int .i64 z] 39), ?_, Deal.ext (Ext.alloc (Ext.refl _) _), w'.heap.size, x, y, z, rfl, hD.1.2.lt, rd_blk (heap_alloc_new w' _), ⟨x1, x2⟩, ⟨y1, y2⟩, z1, z2⟩
                go_simp
              obtain ⟨_, -, -, g9, x9, y9, z9, rfl, -⟩ := hv16
              simp only [Act.put, List.setIfInBounds_toArray, List.set_cons_succ, List.set_cons_zero, Nat.reduceAdd]
              refine wM_nil ?_
              intro w9 hw9 hF9
              obtain ⟨-, g3, x3, y3, z3, e3, hg3, hc3, hx3, hy3, hz3⟩ := hF9 16
              cases e3
              clear hF9 FX
              have S9 := S4.deal hw9.1 hw9.2
              try simp only [List.drop_succ_cons, List.drop_zero]
              refine wpList_append_rd2 _ rfl _ _ 26 rfl elem_blast B0 (.slice s.a2 f.bl.length s.c2) f.bl.length (layBl.rows f.bl) rfl S9.bl _ 1 1 [.int .i64 x3, .int .i64 y3, .int .i64 z3] rfl rfl hc3 (by intro u hu; simp at hu; first | (subst hu; rfl) | (rcases hu with rfl | rfl <;> rfl) | (rcases hu with rfl | rfl | rfl <;> rfl)) (by omega) S9.lo.2.2.2.2 ?_
              intro A5 c5 w5 hown5 hbel5 hgr5 hat5
              have hS5 : BelS (fun k => (Value.slice s.a2 f.bl.length s.c2).ownBlock = some k) w9 w5 := (BelS.refl _ w9).grown hgr5 (fun k e => e)
              have SN := S9.addBl hS5 ⟨x3, y3, z3⟩ hown5
              have h5b : w5.heap[Bf]? = some (.cells (mcells f s) 29 (0, 0)) := hS5.heap S9.blk (fun e => by have := (S9.bl.lt _ e).1; have := S9.lo; omega)
              have p5 := block_cell (i := 3) h5b
              have f5 := blk_free (i := 3) h5b
              simp only [mcells, List.getElem?_toArray, List.getElem?_cons_zero, List.getElem?_cons_succ] at p5
              have HSN := hid SN
              clear hown5 hbel5 hgr5 hat5 h5b SN hS5
              have HS2 := hid (HS.out.addBl (b := ⟨x3, y3, z3⟩) ⟨hx3, hy3, hz3⟩)
              clear HS S4 S9 hw9
              go_wp2
              go_roundw
              case rel => exact ⟨k + 1, _, _, xs, by go_num, by omega, HSN.out, HS2, htl, by simp; omega, HZ0⟩
              case measure => simp [intOf]; omega
            · have hlt' : ¬ (k : Int) < (nb : Int) := by omega
              go_wp2_with fail
              refine (from_any D 1 (K : Int) w4 S4.hp (by omega) (by omega) (by omega) (by omega)).mono ?_
              rintro e w5 ⟨n4, rfl, n40, n41, hb5, hh5⟩
              have S0 := S4.deal hb5 hh5
              obtain ⟨nc, rfl⟩ : ∃ nc : Nat, n4 = nc := ⟨n4.toNat, by omega⟩
              have hnc : nc ≤ K := by omega
              have hnc1 : 1 ≤ nc := by omega
              have hbl8 : f.bl.length ≤ 8 := by omega
              clear S4 hb5 hh5 hlt hlt'
              go_wp2
              go_loopw [113] (fun i113 wr => ∃ (k : Nat) (f : Fg) (s : Ads) (xs : List Value), i113 = .int .i64 (k : Int) ∧ k ≤ nc ∧ FogSt D Bf B0 wA wr f s xs ∧ Hid (StF pl mi f) ∧ f.tr.length ≤ 14 ∧ f.bl.length ≤ 8 ∧ Hid (f.ct.length = k)) (fun i _ => nc - (intOf i).toNat)
              case atStart => exact ⟨0, f, s, xs, rfl, Nat.zero_le _, S0, HS, htl, hbl8, HZ0⟩
              case round =>
                clear S0 HS hbl HZ0 htl hbl8
                obtain ⟨k, f, s, xs, rfl, hk, S4, HS, htl, hbl, HCT⟩ := hrel
                obtain ⟨w4, hw4⟩ : ∃ w4 : World, w4 = wr := ⟨_, rfl⟩
                subst hw4
                by_cases hlt : k < nc
                · have hlt' : (k : Int) < (nc : Int) := by omega
                  obtain ⟨wC, hwC⟩ : ∃ wC, w4.alloc (.cells #[.slice none 0 0, .slice none 0 0] 63) = wC := ⟨_, rfl⟩
                  have hxC : Ext w4 wC := by rw [← hwC]; exact Ext.alloc (Ext.refl _) _
                  have hC : wC.heap[w4.heap.size]? = some (.cells #[.slice none 0 0, .slice none 0 0] 63 (0, 0)) := by rw [← hwC]; exact heap_alloc_new w4 _
                  obtain ⟨Bc, hBc⟩ : ∃ Bc, w4.heap.size = Bc := ⟨_, rfl⟩
                  rw [hBc] at hC
                  have SC := S4.ext hxC
                  obtain ⟨c0, c1, c2, c3, c4⟩ := SC.cells
                  rw [HS.out.epl] at c0
                  have hBc1 : Bc < wC.heap.size := (Array.getElem?_eq_some_iff.1 hC).1
                  have hBcD : Bc ≠ D := by have := S4.lo; omega
                  have hBcF : Bc ≠ Bf := by have := S4.lo; omega
                  have hBc0 : B0 ≤ Bc := by have := S4.lo; omega
                  have hBc4 : w4.heap.size ≤ Bc := by omega
                  have HC := hid hC
                  clear hC
                  go_wp2_with fail
                  try rw [hwC]
                  try rw [hBc]
                  clear c0 c1 c2 c3 c4 hwC hBc
                  refine (upto_any D (pl - 1) wC SC.hp (by omega) (by omega)).mono ?_
                  rintro e w5 ⟨su, rfl, su0, su1, hb5, hh5⟩
                  have hsu : su < pl := by omega
                  have S5 := SC.deal hb5 hh5
                  have HC5 := hid (hb5.heap HC.out hBcD)
                  have hz5 : wC.heap.size ≤ w5.heap.size := hb5.size
                  obtain ⟨c0, c1, c2, c3, c4⟩ := S5.cells
                  rw [HS.out.epl] at c0
                  have O0 := hid (own_nil w5 w5.heap.size 3 1)
                  have hb45 : Bel D w4 w5 := hxC.bel.trans hb5
                  clear SC hxC HC hb5 S5
                  go_wp2
                  clear c0 c1 c2 c3 c4
                  go_loopw [124] (fun i124 wr => ∃ (p : Nat) (st : List Int) (A : Option Addr) (c : Nat), i124 = .int .i64 (p : Int) ∧ (p : Int) ≤ pl ∧ Hid (wr.heap[Bc]? = some (.cells #[.slice A st.length c, .slice none 0 0] 63 (0, 0))) ∧ Hid (wr.ownsRow w5.heap.size 3 1 (.slice A st.length c) st.length (st.map (.int .i64))) ∧
                      Hid ((∀ q ∈ st, 0 ≤ q ∧ q < (p : Int)) ∧ ascL st = true ∧ (su < (p : Int) → 0 < st.length)) ∧ st.length ≤ p ∧ Bel D w4 wr ∧ HeapR wr D ∧ w5.heap.size ≤ wr.heap.size) (fun i _ => pl.toNat - (intOf i).toNat)
                  case atStart => exact ⟨0, [], none, 0, rfl, by omega, HC5, O0, hid ⟨fun q h => (by cases h), rfl, fun h => by omega⟩, Nat.le_refl _, hb45, hh5, Nat.le_refl _⟩
                  case round =>
                    obtain ⟨p, st, A, c, rfl, hp, HB, O, HT, hsl, hb4r, hh, hszr⟩ := hrel
                    have pb0 := block_cell (i := 0) HB.out
                    have pb1 := block_cell (i := 1) HB.out
                    simp only [List.getElem?_toArray, List.getElem?_cons_zero, List.getElem?_cons_succ] at pb0 pb1
                    by_cases hlt : (p : Int) < pl
                    · have hD5 := S4.lo
                      have hbr_wr : Bel D wr wr := Bel.refl _ _
                      have hh_wr := hh
                      by_cases hps : (p : Int) = su
                      · have bps : ((p : Int) == su) = true := by simp [hps]
                        have HPS := hid hps
                        clear hps
                        have O4 := hid (Deal_own hh O.out hbr_wr)
                        have HBn := hid (hbr_wr.heap HB.out hBcD)
                        have hxo := Ext.alloc (Ext.refl wr) (.cells #[.int .i64 (p : Int)] 3)
                        have hzn := hbr_wr.size
                        have hR9 : w5.heap.size ≤ (wr.alloc (.cells #[.int .i64 (p : Int)] 3)).heap.size := by have := hxo.size; omega
                        have hzo : (wr.alloc (.cells #[.int .i64 (p : Int)] 3)).heap.size = wr.heap.size + 1 := by simp
                        have qb0 := block_cell (i := 0) HBn.out
                        simp only [List.getElem?_toArray, List.getElem?_cons_zero] at qb0
                        have HT2 : Hid ((∀ q ∈ st ++ [(p : Int)], 0 ≤ q ∧ q < ((p + 1 : Nat) : Int)) ∧ ascL (st ++ [(p : Int)]) = true ∧ (su < ((p + 1 : Nat) : Int) → 0 < (st ++ [(p : Int)]).length)) := by
                          refine ⟨fun q hq => ?_, ascL_snoc HT.out.2.1 (fun y hy => (HT.out.1 y hy).2), fun _ => by simp⟩
                          rcases List.mem_append.1 hq with hq | hq
                          · have := HT.out.1 q hq; omega
                          · simp only [List.mem_singleton] at hq; subst hq; omega
                        go_wp2_with (at_builtin; refine wpList_append_rd2 _ rfl _ _ 37 rfl elem_int w5.heap.size (.slice A st.length c) st.length (st.map (.int .i64)) rfl (own_below O4.out hxo) _ 1 1 [.int .i64 (p : Int)] rfl rfl (rd_blk (heap_alloc_new wr _)) (by intro u hu; simp at hu; subst hu; rfl) (by omega) hR9 ?_)
                        intro A8 c8 w8 hown8 hbel8 hgr8 hat8
                        have hS8 : BelS (fun k => (Value.slice A st.length c).ownBlock = some k) wr w8 := BelS.trans (hxo.belS) ((BelS.refl _ _).grown hgr8 (fun k e => e))
                        have hAo : ∀ g, (Value.slice A st.length c).ownBlock = some g → w5.heap.size ≤ g := fun g hg => (O4.out.lt g hg).1
                        have HB8 := hid (hS8.heap HBn.out (fun e => by have := hAo _ e; omega))
                        have p8 := block_cell (i := 0) HB8.out
                        have f8 := blk_free (i := 0) HB8.out
                        simp only [List.getElem?_toArray, List.getElem?_cons_zero] at p8
                        have xs8 : BelS (fun k => k = Bc) w8 (w8.setCell ⟨Bc, 0, none⟩ (.slice A8 (st.length + 1) c8)) := BelS.setCell (S := fun k => k = Bc) (BelS.refl _ w8) _ _ rfl
                        have hh8 := ((hh_wr).belS hS8 (fun k hk e => by have := hAo k e; omega)).belS xs8 (fun k hk e => by omega)
                        have hb8 := ((hb4r.trans hbr_wr).then_ hS8 (fun i hi e => by have := hAo i e; have := hb45.size; omega)).then_ xs8 (fun i hi e => by omega)
                        have O8 : Hid ((w8.setCell ⟨Bc, 0, none⟩ (.slice A8 (st.length + 1) c8)).ownsRow w5.heap.size 3 1 (.slice A8 (st ++ [(p : Int)]).length c8) (st ++ [(p : Int)]).length ((st ++ [(p : Int)]).map (.int .i64))) := by
                          have h1 := xs8.own hown8 (fun g hg e => by have := (hown8.lt g hg).1; omega)
                          unfold Hid
                          rw [List.length_append, List.map_append]
                          exact h1
                        have HB9 : Hid ((w8.setCell ⟨Bc, 0, none⟩ (.slice A8 (st.length + 1) c8)).heap[Bc]? = some (.cells #[.slice A8 (st ++ [(p : Int)]).length c8, .slice none 0 0] 63 (0, 0))) := by
                          have := heap_set HB8.out (i := 0) (.slice A8 (st.length + 1) c8)
                          unfold Hid; simpa using this
                        have hz8 : w5.heap.size ≤ (w8.setCell ⟨Bc, 0, none⟩ (.slice A8 (st.length + 1) c8)).heap.size := by have h1 := hS8.size; have h2 := xs8.size; omega
                        clear hown8 hbel8 hgr8 hat8 hS8 HB8 HBn O4 O HB HT hAo hxo xs8 pb0 pb1
                        go_wp2
                        go_roundw
                        case rel => exact ⟨p + 1, st ++ [(p : Int)], A8, c8, by go_num, by omega, HB9, O8, HT2, by simp; omega, hb8, hh8, hz8⟩
                        case measure => simp [intOf]; omega
                      have bps : ((p : Int) == su) = false := by simpa using hps
                      have HPS := hid hps
                      clear hps
                      go_wp2_with fail
                      refine (once_any D 4 wr hh (by omega) (by omega)).mono ?_
                      rintro e w7 ⟨bb, rfl, hbr_w7, hh_w7⟩
                      cases bb
                      case false =>
                        have HB9 := hid (hbr_w7.heap HB.out hBcD)
                        have O8 := hid (Deal_own hh O.out hbr_w7)
                        have HT2 : Hid ((∀ q ∈ st, 0 ≤ q ∧ q < ((p + 1 : Nat) : Int)) ∧ ascL st = true ∧ (su < ((p + 1 : Nat) : Int) → 0 < st.length)) :=
                          ⟨fun q hq => by have := HT.out.1 q hq; omega, HT.out.2.1, fun h => HT.out.2.2 (by have := HPS.out; omega)⟩
                        have hb8 := hb4r.trans hbr_w7
                        have hz8 : w5.heap.size ≤ w7.heap.size := by have := hbr_w7.size; omega
                        clear HB O HT pb0 pb1
                        go_wp2
                        go_roundw
                        case rel => exact ⟨p + 1, st, A, c, by go_num, by omega, HB9, O8, HT2, by omega, hb8, hh_w7, hz8⟩
                        case measure => simp [intOf]; omega
                      clear pb0 pb1
                      have O4 := hid (Deal_own hh O.out hbr_w7)
                      have HBn := hid (hbr_w7.heap HB.out hBcD)
                      have hxo := Ext.alloc (Ext.refl w7) (.cells #[.int .i64 (p : Int)] 3)
                      have hzn := hbr_w7.size
                      have hR9 : w5.heap.size ≤ (w7.alloc (.cells #[.int .i64 (p : Int)] 3)).heap.size := by have := hxo.size; omega
                      have hzo : (w7.alloc (.cells #[.int .i64 (p : Int)] 3)).heap.size = w7.heap.size + 1 := by simp
                      have qb0 := block_cell (i := 0) HBn.out
                      simp only [List.getElem?_toArray, List.getElem?_cons_zero] at qb0
                      have HT2 : Hid ((∀ q ∈ st ++ [(p : Int)], 0 ≤ q ∧ q < ((p + 1 : Nat) : Int)) ∧ ascL (st ++ [(p : Int)]) = true ∧ (su < ((p + 1 : Nat) : Int) → 0 < (st ++ [(p : Int)]).length)) := by
                        refine ⟨fun q hq => ?_, ascL_snoc HT.out.2.1 (fun y hy => (HT.out.1 y hy).2), fun _ => by simp⟩
                        rcases List.mem_append.1 hq with hq | hq
                        · have := HT.out.1 q hq; omega
                        · simp only [List.mem_singleton] at hq; subst hq; omega
                      go_wp2_with (at_builtin; refine wpList_append_rd2 _ rfl _ _ 37 rfl elem_int w5.heap.size (.slice A st.length c) st.length (st.map (.int .i64)) rfl (own_below O4.out hxo) _ 1 1 [.int .i64 (p : Int)] rfl rfl (rd_blk (heap_alloc_new w7 _)) (by intro u hu; simp at hu; subst hu; rfl) (by omega) hR9 ?_)
                      intro A8 c8 w8 hown8 hbel8 hgr8 hat8
                      have hS8 : BelS (fun k => (Value.slice A st.length c).ownBlock = some k) w7 w8 := BelS.trans (hxo.belS) ((BelS.refl _ _).grown hgr8 (fun k e => e))
                      have hAo : ∀ g, (Value.slice A st.length c).ownBlock = some g → w5.heap.size ≤ g := fun g hg => (O4.out.lt g hg).1
                      have HB8 := hid (hS8.heap HBn.out (fun e => by have := hAo _ e; omega))
                      have p8 := block_cell (i := 0) HB8.out
                      have f8 := blk_free (i := 0) HB8.out
                      simp only [List.getElem?_toArray, List.getElem?_cons_zero] at p8
                      have xs8 : BelS (fun k => k = Bc) w8 (w8.setCell ⟨Bc, 0, none⟩ (.slice A8 (st.length + 1) c8)) := BelS.setCell (S := fun k => k = Bc) (BelS.refl _ w8) _ _ rfl
                      have hh8 := ((hh_w7).belS hS8 (fun k hk e => by have := hAo k e; omega)).belS xs8 (fun k hk e => by omega)
                      have hb8 := ((hb4r.trans hbr_w7).then_ hS8 (fun i hi e => by have := hAo i e; have := hb45.size; omega)).then_ xs8 (fun i hi e => by omega)
                      have O8 : Hid ((w8.setCell ⟨Bc, 0, none⟩ (.slice A8 (st.length + 1) c8)).ownsRow w5.heap.size 3 1 (.slice A8 (st ++ [(p : Int)]).length c8) (st ++ [(p : Int)]).length ((st ++ [(p : Int)]).map (.int .i64))) := by
                        have h1 := xs8.own hown8 (fun g hg e => by have := (hown8.lt g hg).1; omega)
                        unfold Hid
                        rw [List.length_append, List.map_append]
                        exact h1
                      have HB9 : Hid ((w8.setCell ⟨Bc, 0, none⟩ (.slice A8 (st.length + 1) c8)).heap[Bc]? = some (.cells #[.slice A8 (st ++ [(p : Int)]).length c8, .slice none 0 0] 63 (0, 0))) := by
                        have := heap_set HB8.out (i := 0) (.slice A8 (st.length + 1) c8)
                        unfold Hid; simpa using this
                      have hz8 : w5.heap.size ≤ (w8.setCell ⟨Bc, 0, none⟩ (.slice A8 (st.length + 1) c8)).heap.size := by have h1 := hS8.size; have h2 := xs8.size; omega
                      clear hown8 hbel8 hgr8 hat8 hS8 HB8 HBn O4 O HB HT hAo hxo xs8
                      go_wp2
                      go_roundw
                      case rel => exact ⟨p + 1, st ++ [(p : Int)], A8, c8, by go_num, by omega, HB9, O8, HT2, by simp; omega, hb8, hh8, hz8⟩
                      case measure => simp [intOf]; omega
                      skip
                    · have hlt' : ¬ (p : Int) < pl := hlt
                      have hsp : 0 < st.length := HT.out.2.2 (by omega)
                      have hD5 := S4.lo
                      have S6 := S4.deal hb4r hh
                      have hh6 := S6.hp
                      have O6 := hid (own_lower O.out (show B0 ≤ w5.heap.size by omega))
                      have hct8 : f.ct.length ≤ 8 := by have := HCT.out; omega
                      obtain ⟨c0, c1, c2, c3, c4⟩ := S6.cells
                      have S9 := S6.ext (Ext.alloc (Ext.refl wr) (.cells #[.slice A st.length c, .slice none 0 0] 63))
                      have O9 := own_below O6.out (Ext.alloc (Ext.refl wr) (.cells #[.slice A st.length c, .slice none 0 0] 63))
                      go_wp2_with (at_builtin; refine wpList_append_rd2 _ rfl _ _ 27 rfl elem_cart B0 (.slice s.a3 f.ct.length s.c3) f.ct.length xs rfl S9.ct _ 1 1 [.slice A st.length c, .slice none 0 0] rfl rfl (rd_blk (heap_alloc_new wr _)) (by intro u hu; simp at hu; first | (subst hu; rfl) | (rcases hu with rfl | rfl <;> rfl) | (rcases hu with rfl | rfl | rfl <;> rfl)) (by omega) S9.lo.2.2.2.2 ?_)
                      intro A5 c5 w5 hown5 hbel5 hgr5 hat5
                      have hS5 : BelS (fun k => (Value.slice s.a3 f.ct.length s.c3).ownBlock = some k) (wr.alloc (.cells #[.slice A st.length c, .slice none 0 0] 63)) w5 := (BelS.refl _ (wr.alloc (.cells #[.slice A st.length c, .slice none 0 0] 63))).grown hgr5 (fun k e => e)
                      have SN := S9.addCt hS5 st O9 hown5
                      have h5b : w5.heap[Bf]? = some (.cells (mcells f s) 29 (0, 0)) := hS5.heap S9.blk (fun e => by have := (S9.ct.lt _ e).1; have := S9.lo; omega)
                      have p5 := block_cell (i := 4) h5b
                      have f5 := blk_free (i := 4) h5b
                      simp only [mcells, List.getElem?_toArray, List.getElem?_cons_zero, List.getElem?_cons_succ] at p5
                      have HSN := hid SN
                      clear hown5 hbel5 hgr5 hat5 h5b SN hS5
                      have HS2 := hid (HS.out.addCt (st := st) ⟨fun q hq => by have := HT.out.1 q hq; omega, hsp, HT.out.2.1⟩)
                      clear HS S6 S9 HB O HT pb0 pb1 c0 c1 c2 c3 c4
                      go_wp2
                      go_roundw
                      case rel => exact ⟨k + 1, _, _, _, by go_num, by omega, HSN.out, HS2, htl, hbl, by have := HCT.out; unfold Hid; simp; omega⟩
                      case measure => simp [intOf]; omega
                · have hlt' : ¬ (k : Int) < (nc : Int) := by omega
                  have hkn : f.ct.length ≤ nc ∧ nc ≤ f.ct.length := by have := HCT.out; omega
                  obtain ⟨c0, c1, c2, c3, c4⟩ := S4.cells
                  have hA8 := hid (S4.bel.heap HA8.out (by have := S4.lo; omega))
                  have r0 := block_cell (i := 0) hA8.out
                  have r1 := block_cell (i := 1) hA8.out
                  have r2 := block_cell (i := 2) hA8.out
                  have r3 := block_cell (i := 3) hA8.out
                  have r4 := block_cell (i := 4) hA8.out
                  have rf := fun i => blk_free (i := i) hA8.out
                  simp only [List.getElem?_toArray, List.getElem?_cons_zero, List.getElem?_cons_succ] at r0 r1 r2 r3 r4
                  have HMF := hid (HS.out.made (P := P) (M := M) (K := K) (by omega) (by omega) hP8 (by omega) (by omega) hM8 htl hbl (by omega) (by omega) hK3)
                  have HLO : Hid (∀ b ∈ f.bl, b.lo ≤ 3) := fun b hb => (HS.out.bl b hb).2.2.2
                  have hlo := S4.lo
                  have hne : ¬ Bf = w.heap.size := by omega
                  have hne2 : ¬ w.heap.size = Bf := by omega
                  have HB8 : FogB w4 (fun n => n = w.heap.size) := fun g hg => by rw [hg]; exact ⟨_, _, hA8.out, by decide, by decide, by decide, by decide, by decide⟩
                  have S4' := hid S4
                  have HXA := hid hxA
                  go_wp2
                  have x9 : BelS (fun n => n = w.heap.size) w4 (((((w4.setCell ⟨w.heap.size, 0, none⟩ (.int .i64 f.pl)).setCell ⟨w.heap.size, 1, none⟩ (.int .i64 f.mi)).setCell ⟨w.heap.size, 2, none⟩ (.slice s.a1 f.tr.length s.c1)).setCell ⟨w.heap.size, 3, none⟩ (.slice s.a2 f.bl.length s.c2)).setCell ⟨w.heap.size, 4, none⟩ (.slice s.a3 f.ct.length s.c3)) :=
                    (((((BelS.refl _ w4).setCell (S := fun n => n = w.heap.size) ⟨w.heap.size, 0, none⟩ _ rfl).setCell ⟨w.heap.size, 1, none⟩ _ rfl).setCell ⟨w.heap.size, 2, none⟩ _ rfl).setCell ⟨w.heap.size, 3, none⟩ _ rfl).setCell ⟨w.heap.size, 4, none⟩ _ rfl
                  refine bodyPost_ret (v := s.val f) ?res rfl ⟨s.val f, f, rfl, HMF.out, HLO.out, ⟨B0, by omega, S4'.out.gb.keep x9 HB8⟩, (HXA.out.bel.trans S4'.out.bel).then_ x9 (fun i hi e => by omega), S4'.out.hp.belS x9 (fun k hk e => by have := HDl.out; omega)⟩
                  case res =>
                    unfold Ads.val fval
                    simp [results, Tryz.results7, go_sem, r0, r1, r2, r3, r4]
end Go.Proofs.YtlonpgbapiemcaaGreat
