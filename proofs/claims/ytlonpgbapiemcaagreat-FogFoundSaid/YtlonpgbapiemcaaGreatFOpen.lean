/- The walks of fog's least and opened. Printed by my gen_fopen.py. -/
import Derived.Test.YtlonpgbapiemcaaGreatFChk4
import Derived.Test.YtlonpgbapiemcaaGreatG2
namespace Go.Proofs.YtlonpgbapiemcaaGreat
open Go Go.RowKit Go.Shelf
set_option linter.unusedVariables false
set_option linter.unusedSimpArgs false

set_option maxHeartbeats 400000 in
theorem least_any (n : Int) (A : Option Addr) (k : Nat) (l : List Int) (w : World) (hA : Ints w A l) (hl : l.length ≤ 9223372036854775807) :
    Calls Tryz.prog 138 #[.int .i64 n, .slice A l.length k] w fun e w' => e = .returned (.int .i64 (leastL n l)) ∧ w = w' := by
  have HF : Hid (leastL n l = leastL n (l.drop 0)) := rfl
  generalize hF : leastL n l = F at HF ⊢
  clear hF
  have HA := hid hA
  clear hA
  go_enter Tryz.func138, Tryz.ntmps138
  go_wp2
  go_loop [0, 9] (fun s0 s9 => ∃ (kk : Nat) (m : Int), kk ≤ l.length ∧ s9 = .int .i64 kk ∧ s0 = .int .i64 m ∧ Hid (F = leastL m (l.drop kk))) (fun _ i => l.length - (intOf i).toNat)
  case atStart => exact ⟨0, n, Nat.zero_le _, rfl, rfl, HF⟩
  case round =>
    obtain ⟨kk, m, h1, rfl, rfl, HF⟩ := hrel
    by_cases hlt : kk < l.length
    · have hlt' : (kk : Int) < (l.length : Int) := by omega
      obtain ⟨x, hx⟩ := get_of_lt l kk hlt
      obtain ⟨b, off, rfl, c0⟩ := Ints.at_ HA.out hx
      have HX := hid hx
      clear hx
      have HD : Hid (F = leastL (min m x) (l.drop (kk + 1))) := by
        unfold Hid
        rw [HF.out, List.drop_eq_getElem_cons hlt, (List.getElem?_eq_some_iff.1 HX.out).2]; rfl
      go_wp2
      all_goals
        go_round
        case rel => exact ⟨kk + 1, _, by omega, by go_num, rfl, by first | exact HD | (unfold Hid; rw [HD.out]; congr 1; omega)⟩
        case measure => simp [intOf]; omega
    · have hlt' : ¬ (kk : Int) < (l.length : Int) := by omega
      go_wp2
      go_ret
      exact ⟨ret_of (int_of (by rw [HF.out, List.drop_eq_nil_of_le (by omega)]; rfl)), rfl⟩

theorem least_over (g : Mat) (m a b : Nat) : leastL (g a b) [g a m + g m b, 100] = over g m a b := rfl
theorem gl_null : gl (fun _ _ => 0) = List.replicate 64 0 := by decide
theorem over_congr {g g' : Mat} (h : Eq8 g g') {m : Nat} (hm : m < 8) : Eq8 (over g m) (over g' m) := fun a b ha hb => by
  unfold over; rw [h a b ha hb, h a m ha hm, h m b hm hb]

/-- What opened answers. -/
def OpenPost (w : World) (f : Fg) (e : Ending) (w' : World) : Prop := ∃ r, e = .returned (.tuple #[r, .int .i64 (checkF f)]) ∧ Ext w w' ∧ (checkF f = 0 → DkR w' r f) ∧ (checkF f ≠ 0 → r = .pointer none)

set_option maxRecDepth 100000 in
set_option maxHeartbeats 4000000 in
theorem opened_any (v : Value) (f : Fg) (w : World) (hf : FgR w v f) (hs : f.sized) :
    Calls Tryz.prog 43 #[v] w (OpenPost w f) := by
  obtain ⟨s, rfl, hr⟩ := hf.rows
  obtain ⟨T, hT⟩ : ∃ T, checkF f = T := ⟨_, rfl⟩
  have HT := hid hT
  clear hT
  have HS := hid hs
  have z1 := hs.tr
  clear hs
  have hx0 : Ext w (w.alloc (.cells #[.int .i64 f.pl, .int .i64 f.mi, .slice s.a1 f.tr.length s.c1, .slice s.a2 f.bl.length s.c2, .slice s.a3 f.ct.length s.c3] 29)) := Ext.alloc (Ext.refl w) _
  have k0 := fun o => (Ext.alloc (Ext.refl (w.alloc (.cells #[.int .i64 f.pl, .int .i64 f.mi, .slice s.a1 f.tr.length s.c1, .slice s.a2 f.bl.length s.c2, .slice s.a3 f.ct.length s.c3] 29))) o)
  show Calls _ _ #[.agg #[.int .i64 f.pl, .int .i64 f.mi, .slice s.a1 f.tr.length s.c1, .slice s.a2 f.bl.length s.c2, .slice s.a3 f.ct.length s.c3]] _ _
  go_enter Tryz.func43, Tryz.ntmps43
  go_wp2_with fail
  refine (check_any (.agg #[.int .i64 f.pl, .int .i64 f.mi, .slice s.a1 f.tr.length s.c1, .slice s.a2 f.bl.length s.c2, .slice s.a3 f.ct.length s.c3]) f _ (FRows.fg (hr.ext hx0)) HS.out).mono ?_
  rintro e w1 ⟨rfl, hb1⟩
  have hx1 := hx0.trans hb1
  have kc0 := hb1.cell (p := ⟨w.heap.size, 0, none⟩) (u := .int .i64 f.pl) (by simp [go_sem])
  have kc1 := hb1.cell (p := ⟨w.heap.size, 1, none⟩) (u := .int .i64 f.mi) (by simp [go_sem])
  have kc2 := hb1.cell (p := ⟨w.heap.size, 2, none⟩) (u := .slice s.a1 f.tr.length s.c1) (by simp [go_sem])
  have kc3 := hb1.cell (p := ⟨w.heap.size, 3, none⟩) (u := .slice s.a2 f.bl.length s.c2) (by simp [go_sem])
  have kc4 := hb1.cell (p := ⟨w.heap.size, 4, none⟩) (u := .slice s.a3 f.ct.length s.c3) (by simp [go_sem])
  have hwz : w.heap.size < w1.heap.size := by have := hb1.size; simp at this; omega
  clear k0 hx0 hb1
  rw [HT.out]
  by_cases h0 : T = 0
  case neg =>
    have H0 : Hid (checkF f ≠ 0) := by unfold Hid; rw [HT.out]; exact h0
    go_wp2
    go_ret2
    exact ⟨.pointer none, by rw [HT.out]; rfl, hx1, fun h => absurd h H0.out, fun _ => rfl⟩
  have H0 : Hid (checkF f = 0) := HT.out.trans h0
  subst h0
  have HOK : Hid (FogOK f) := checkF_ok H0.out
  have HDS : Hid (Dst (far1 f)) := far1_dst HOK.out
  go_wp2
  obtain ⟨W0, hW0⟩ : ∃ W0, w1.alloc (.cells (dkcells s f (fun _ _ => 0)).toArray 107) = W0 := ⟨_, rfl⟩
  have hcells : (((((Tryz.zeroCells107.setIfInBounds 0 (Value.int IntKind.i64 f.pl)).setIfInBounds 1 (.int .i64 f.mi)).setIfInBounds 2 (.slice s.a1 f.tr.length s.c1)).setIfInBounds 3 (.slice s.a2 f.bl.length s.c2)).setIfInBounds 4 (.slice s.a3 f.ct.length s.c3)) = (dkcells s f (fun _ _ => 0)).toArray := by
    simp only [dkcells, gl_null]
    unfold Tryz.zeroCells107
    rfl
  rw [hcells, hW0]
  obtain ⟨D, hD⟩ : ∃ D, w1.heap.size = D := ⟨_, rfl⟩
  have hX1 : Ext w1 W0 := by rw [← hW0]; exact Ext.alloc (Ext.refl _) _
  have hd0 : Dk W0 D s f (fun _ _ => 0) := by rw [← hW0, ← hD]; exact World.alloc_heap_new _ _
  have hX0 : Ext w W0 := hx1.trans hX1
  have e0 := hX1.cell kc0
  have e2 := hX1.cell kc2
  have hDw : w.heap.size < D := by omega
  have HE0 := hid e0
  have HE2 := hid e2
  rw [hD]
  clear hW0 hcells kc0 kc1 kc2 kc3 kc4 hwz hx1 hX1 hD e0 e2
  go_loopw [21] (fun i wr => ∃ a : Nat, a ≤ 8 ∧ i = .int .i64 a ∧ Dk wr D s f (tillAB far0 (fun _ _ => 0) a 0) ∧ Bel D W0 wr) (fun i _ => 8 - (intOf i).toNat)
  case atStart => exact ⟨0, Nat.zero_le _, rfl, hd0.congr (till_none _ _).symm, Bel.refl _ _⟩
  case round =>
    obtain ⟨a, ha, rfl, hd, hb⟩ := hrel
    by_cases hlt : a < 8
    · have hlt' : (a : Int) < 8 := by omega
      go_wp2
      go_loopw [24] (fun i wr => ∃ b : Nat, b ≤ 8 ∧ i = .int .i64 b ∧ Dk wr D s f (tillAB far0 (fun _ _ => 0) a b) ∧ Bel D W0 wr) (fun i _ => 8 - (intOf i).toNat)
      case atStart => exact ⟨0, Nat.zero_le _, rfl, hd, hb⟩
      case round =>
        obtain ⟨b, hbl, rfl, hd, hb⟩ := hrel
        by_cases hltb : b < 8
        · have hltb' : (b : Int) < 8 := by omega
          have c0 := hd.at_ hlt hltb
          have f0 := hd.frozen (5 + a * 8 + b)
          by_cases hab : a = b
          · have hab' : ((a : Int) != (b : Int)) = false := by subst hab; simp
            have hd2 := hid (hd.congr (till_same _ _ a b (by subst hab; exact far0_eq a)))
            go_wp2
            go_roundw
            case rel => exact ⟨b + 1, by omega, by go_num, hd2.out, hb⟩
            case measure => simp [intOf]; omega
          · have hab' : ((a : Int) != (b : Int)) = true := by simp; omega
            have hd2 := hd.set hlt hltb 100
            have hd3 := hid (hd2.congr (by rw [← far0_ne hab]; exact till_set _ _ a b))
            have hb2 := hb.setCell (5 + a * 8 + b) (.int .i64 100)
            clear hd2
            go_wp2
            go_roundw
            case rel => exact ⟨b + 1, by omega, by go_num, hd3.out, hb2⟩
            case measure => simp [intOf]; omega
        · have hltb' : ¬ (b : Int) < 8 := by omega
          have hd2 := hid (hd.congr (till_row _ _ a (by omega)))
          go_wp2
          go_roundw
          case rel => exact ⟨a + 1, by omega, by go_num, hd2.out, hb⟩
          case measure => simp [intOf]; omega
    · have hlt' : ¬ (a : Int) < 8 := by omega
      have hd1 := hd.congr (till_all _ _ (by omega))
      have HD1 := hid hd1
      have e0 := hb.cell HE0.out (by simp; omega)
      have e2 := hb.cell HE2.out (by simp; omega)
      clear hd hd1
      go_wp2
      go_loopw [43] (fun i wr => ∃ kk : Nat, kk ≤ f.tr.length ∧ i = .int .i64 kk ∧ Dk wr D s f ((f.tr.take kk).foldl layT far0) ∧ Bel D W0 wr) (fun i _ => f.tr.length - (intOf i).toNat)
      case atStart => exact ⟨0, Nat.zero_le _, rfl, HD1.out, hb⟩
      case round =>
        obtain ⟨kk, hk, rfl, hd, hb⟩ := hrel
        have hx := hX0.then_bel (by omega) hb
        have hR := hr.ext hx
        by_cases hlt : kk < f.tr.length
        · have hlt' : (kk : Int) < (f.tr.length : Int) := by omega
          obtain ⟨⟨t1, t2⟩, ht⟩ := get_of_lt f.tr kk hlt
          have htr := tr_eight HOK.out _ (mem_of_get ht)
          have htn := (HOK.out.tr _ (mem_of_get ht)).2.2
          simp only at htr htn
          obtain ⟨p, rfl⟩ : ∃ p : Nat, t1 = p := ⟨t1.toNat, by omega⟩
          obtain ⟨q, rfl⟩ : ∃ q : Nat, t2 = q := ⟨t2.toNat, by omega⟩
          obtain ⟨b, off, hA, c0, c1⟩ := Prs.at_ hR.tr ht
          have HA := hid hA
          have HTK : Hid ((f.tr.take (kk + 1)).foldl layT far0 = layT ((f.tr.take kk).foldl layT far0) ((p : Int), (q : Int))) := by
            unfold Hid; rw [List.take_add_one, ht, List.foldl_append]; rfl
          simp only at c0 c1
          have hp8 : p < 8 := by omega
          have hq8 : q < 8 := by omega
          have hpq : p ≠ q := by omega
          rw [hA]
          clear ht hA hR htr htn e0 e2
          go_upto_region 18 with fail
          obtain ⟨W1, hW1⟩ : ∃ W1, wr.alloc (.cells #[.int .i64 (p : Int), .int .i64 (q : Int)] 78) = W1 := ⟨_, rfl⟩
          have hx1 : Ext wr W1 := by rw [← hW1]; exact Ext.alloc (Ext.refl _) _
          have g0 : W1.cell? ⟨wr.heap.size, 0, none⟩ = some (.int .i64 (p : Int)) := by rw [← hW1]; simp [go_sem]
          have g1 : W1.cell? ⟨wr.heap.size, 1, none⟩ = some (.int .i64 (q : Int)) := by rw [← hW1]; simp [go_sem]
          have hDr := hd.lt
          have hd1 := hd.ext hx1
          rw [hW1]
          clear hW1
          have m1 := hd1.at_ hp8 hq8
          have m2 := hd1.at_ hq8 hp8
          have f1 := hd1.frozen (5 + p * 8 + q)
          have f2 := hd1.frozen (5 + q * 8 + p)
          have n1 := (hd1.set hp8 hq8 1).at_ hq8 hp8
          have n2 := (hd1.set hq8 hp8 1).at_ hp8 hq8
          have hp8' : (p : Int) < 8 := by omega
          have hq8' : (q : Int) < 8 := by omega
          have hb1 := (hb.trans hx1.bel).drew
          have hA2 := hid ((((hb.trans hx1.bel).setCell (5 + p * 8 + q) (.int .i64 1)).setCell (5 + q * 8 + p) (.int .i64 1)).drew)
          have hA1 := hid ((((hb.trans hx1.bel).setCell (5 + q * 8 + p) (.int .i64 1)).setCell (5 + p * 8 + q) (.int .i64 1)).drew)
          have hE2 := hid (((hd1.set hp8 hq8 1).set hq8 hp8 1).ext (Ext.drew (Ext.refl _)))
          have hE1 := hid (((hd1.set hq8 hp8 1).set hp8 hq8 1).ext (Ext.drew (Ext.refl _)))
          have HL : ∀ g, layT g ((p : Int), (q : Int)) = upd (upd g p q 1) q p 1 := fun g => rfl
          have HF2 : Hid (∀ W', Dk W' D s f (upd (upd ((f.tr.take kk).foldl layT far0) p q 1) q p 1) → Dk W' D s f ((f.tr.take (kk + 1)).foldl layT far0)) := fun W' h => by rw [HTK.out, HL]; exact h
          have HF1 : Hid (∀ W', Dk W' D s f (upd (upd ((f.tr.take kk).foldl layT far0) q p 1) p q 1) → Dk W' D s f ((f.tr.take (kk + 1)).foldl layT far0)) := fun W' h => by
            rw [HTK.out, HL]
            refine h.congr fun x y _ _ => ?_
            unfold upd
            split <;> split <;> (try split) <;> (try rfl)
          clear HL
          go_region
          all_goals
            go_wp2
            go_roundw
            case rel =>
              refine ⟨kk + 1, ?_, ?_, ?_, ?_⟩
              · omega
              · go_num
              · first | exact HF2.out _ hE2.out | exact HF1.out _ hE1.out
              · first | exact hA2.out | exact hA1.out
            case measure => simp [intOf]; omega
        · have hlt' : ¬ (kk : Int) < (f.tr.length : Int) := by omega
          have HG0 : Hid (Dk wr D s f (overs (far1 f) 0)) := by
            unfold Hid
            rw [List.take_of_length_le (by omega)] at hd
            exact hd
          clear hd hR
          go_wp2
          go_loopw [66] (fun i wr => ∃ m : Nat, m ≤ 8 ∧ i = .int .i64 m ∧ Dk wr D s f (overs (far1 f) m) ∧ Bel D W0 wr) (fun i _ => 8 - (intOf i).toNat)
          case atStart => exact ⟨0, by omega, rfl, HG0.out, hb⟩
          case round =>
            obtain ⟨m, hm, rfl, hd, hb⟩ := hrel
            by_cases hlt : m < 8
            · have hlt' : (m : Int) < 8 := by omega
              have HDG : Hid (Dst (overs (far1 f) m)) := HDS.out.overs m hm
              have HNX : Hid (overs (far1 f) (m + 1) = over (overs (far1 f) m) m) := rfl
              generalize overs (far1 f) m = G at hd HDG HNX
              go_wp2
              go_loopw [69] (fun i wr => ∃ a : Nat, a ≤ 8 ∧ i = .int .i64 a ∧ Dk wr D s f (tillAB (over G m) G a 0) ∧ Bel D W0 wr) (fun i _ => 8 - (intOf i).toNat)
              case atStart => exact ⟨0, by omega, rfl, hd.congr (till_none _ _).symm, hb⟩
              case round =>
                obtain ⟨a, ha, rfl, hd, hb⟩ := hrel
                by_cases hlta : a < 8
                · have hlta' : (a : Int) < 8 := by omega
                  go_wp2
                  go_loopw [72] (fun i wr => ∃ b : Nat, b ≤ 8 ∧ i = .int .i64 b ∧ Dk wr D s f (tillAB (over G m) G a b) ∧ Bel D W0 wr) (fun i _ => 8 - (intOf i).toNat)
                  case atStart => exact ⟨0, by omega, rfl, hd, hb⟩
                  case round =>
                    obtain ⟨b, hb8, rfl, hd, hb⟩ := hrel
                    by_cases hltb : b < 8
                    · have hltb' : (b : Int) < 8 := by omega
                      obtain ⟨GG, hGG⟩ : ∃ GG, tillAB (over G m) G a b = GG := ⟨_, rfl⟩
                      obtain ⟨o1, o2, o3⟩ := till_over HDG.out hlt hlta hltb
                      have l2 := HDG.out.lo a m hlta hlt
                      have l3 := HDG.out.lo m b hlt hltb
                      have u2 := HDG.out.hi a m hlta hlt
                      have u3 := HDG.out.hi m b hlt hltb
                      unfold noWay at u2 u3
                      rw [hGG] at o1 o2 o3 hd
                      have hw : IntKind.i64.wrap (GG a m + GG m b) = GG a m + GG m b := IntWalk.i64_in _ ⟨by rw [o2, o3]; omega, by rw [o2, o3]; omega⟩
                      have HLO : Hid (leastL (GG a b) [GG a m + GG m b, 100] = over G m a b) := by unfold Hid; rw [o1, o2, o3]; rfl
                      have HSET : Hid (∀ W', Dk W' D s f (upd GG a b (over G m a b)) → Dk W' D s f (tillAB (over G m) G a (b + 1))) := fun W' h => by rw [← hGG] at h; exact h.congr (till_set _ _ a b)
                      clear hGG o1 o2 o3 l2 l3 u2 u3
                      go_upto_region 29 with fail
                      have FX : Hid (∀ w', Ext wr w' → w'.cell? ⟨D, 5 + a * 8 + b, none⟩ = some (.int .i64 (GG a b)) ∧ w'.cell? ⟨D, 5 + a * 8 + m, none⟩ = some (.int .i64 (GG a m)) ∧ w'.cell? ⟨D, 5 + m * 8 + b, none⟩ = some (.int .i64 (GG m b)) ∧ (a : Int) < 8 ∧ (b : Int) < 8 ∧ (m : Int) < 8) := fun w' h => ⟨(hd.ext h).at_ hlta hltb, (hd.ext h).at_ hlta hlt, (hd.ext h).at_ hlt hltb, hlta', hltb', hlt'⟩
                      refine wp_region_shut_tail Ext (fun w' => Ext wr w') (fun
                        | 28 => some (fun v w => ∃ B, v = .slice (some ⟨B, 0, none⟩) 2 2 ∧ w.cell? ⟨B, 0, none⟩ = some (.int .i64 (GG a m + GG m b)) ∧ w.cell? ⟨B, 1, none⟩ = some (.int .i64 100))
                        | 29 => some (fun v _ => v = .int .i64 (leastL (GG a b) [GG a m + GG m b, 100]))
                        | _ => none) 34 (by kernel_rfl) (by kernel_rfl) (fun _ _ h k => h.trans k) ?hT (Ext.drew (Ext.refl wr)) ?_
                      case hT =>
                        intro i R hR
                        match i, hR with
                        | 28, hR => cases hR; exact fun _ _ _ ⟨B, e1, e2, e3⟩ k => ⟨B, e1, k.cell e2, k.cell e3⟩
                        | 29, hR => cases hR; exact fun _ _ _ h _ => h
                      refine wM_val ?ua0 rfl rfl Ext.refl (fun w' hD => ?ha0) (fun pha0 => ?na0)
                      case ha0 =>
                        obtain ⟨d0, d1, d2, d3, d4, d5⟩ := FX.out w' hD.1
                        go_simp; rfl
                      simp only [Act.put, List.setIfInBounds_toArray, List.set_cons_succ, List.set_cons_zero, Nat.reduceAdd]
                      refine wM_val ?ua1 rfl rfl Ext.refl (fun w' hD => ?ha1) (fun pha1 => ?na1)
                      case ha1 =>
                        obtain ⟨d0, d1, d2, d3, d4, d5⟩ := FX.out w' hD.1
                        go_simp; rfl
                      simp only [Act.put, List.setIfInBounds_toArray, List.set_cons_succ, List.set_cons_zero, Nat.reduceAdd]
                      refine wM_val ?ua2 rfl rfl Ext.refl (fun w' hD => ?ha2) (fun pha2 => ?na2)
                      case ha2 =>
                        obtain ⟨d0, d1, d2, d3, d4, d5⟩ := FX.out w' hD.1
                        go_simp; rfl
                      simp only [Act.put, List.setIfInBounds_toArray, List.set_cons_succ, List.set_cons_zero, Nat.reduceAdd]
                      refine wM_val ?ua3 rfl rfl Ext.refl (fun w' hD => ?ha3) (fun pha3 => ?na3)
                      case ha3 =>
                        obtain ⟨d0, d1, d2, d3, d4, d5⟩ := FX.out w' hD.1
                        go_simp; rfl
                      simp only [Act.put, List.setIfInBounds_toArray, List.set_cons_succ, List.set_cons_zero, Nat.reduceAdd]
                      refine wM_val ?ua4 rfl rfl Ext.refl (fun w' hD => ?ha4) (fun pha4 => ?na4)
                      case ha4 =>
                        obtain ⟨d0, d1, d2, d3, d4, d5⟩ := FX.out w' hD.1
                        go_simp; rfl
                      simp only [Act.put, List.setIfInBounds_toArray, List.set_cons_succ, List.set_cons_zero, Nat.reduceAdd]
                      refine wM_val ?ua5 rfl rfl Ext.refl (fun w' hD => ?ha5) (fun pha5 => ?na5)
                      case ha5 =>
                        obtain ⟨d0, d1, d2, d3, d4, d5⟩ := FX.out w' hD.1
                        go_simp; rfl
                      simp only [Act.put, List.setIfInBounds_toArray, List.set_cons_succ, List.set_cons_zero, Nat.reduceAdd]
                      refine wM_val ?ua6 rfl rfl Ext.refl (fun w' hD => ?ha6) (fun pha6 => ?na6)
                      case ha6 =>
                        obtain ⟨d0, d1, d2, d3, d4, d5⟩ := FX.out w' hD.1
                        go_simp; rfl
                      simp only [Act.put, List.setIfInBounds_toArray, List.set_cons_succ, List.set_cons_zero, Nat.reduceAdd]
                      refine wM_val ?ua7 rfl rfl Ext.refl (fun w' hD => ?ha7) (fun pha7 => ?na7)
                      case ha7 =>
                        obtain ⟨d0, d1, d2, d3, d4, d5⟩ := FX.out w' hD.1
                        go_simp; rfl
                      simp only [Act.put, List.setIfInBounds_toArray, List.set_cons_succ, List.set_cons_zero, Nat.reduceAdd]
                      refine wM_val ?ua8 rfl rfl Ext.refl (fun w' hD => ?ha8) (fun pha8 => ?na8)
                      case ha8 =>
                        obtain ⟨d0, d1, d2, d3, d4, d5⟩ := FX.out w' hD.1
                        go_simp; rfl
                      simp only [Act.put, List.setIfInBounds_toArray, List.set_cons_succ, List.set_cons_zero, Nat.reduceAdd]
                      refine wM_val ?ua9 rfl rfl Ext.refl (fun w' hD => ?ha9) (fun pha9 => ?na9)
                      case ha9 =>
                        obtain ⟨d0, d1, d2, d3, d4, d5⟩ := FX.out w' hD.1
                        go_simp; rfl
                      simp only [Act.put, List.setIfInBounds_toArray, List.set_cons_succ, List.set_cons_zero, Nat.reduceAdd]
                      refine wM_val ?ua10 rfl rfl Ext.refl (fun w' hD => ?ha10) (fun pha10 => ?na10)
                      case ha10 =>
                        obtain ⟨d0, d1, d2, d3, d4, d5⟩ := FX.out w' hD.1
                        go_simp; rfl
                      simp only [Act.put, List.setIfInBounds_toArray, List.set_cons_succ, List.set_cons_zero, Nat.reduceAdd]
                      refine wM_val ?ua11 rfl rfl Ext.refl (fun w' hD => ?ha11) (fun pha11 => ?na11)
                      case ha11 =>
                        obtain ⟨d0, d1, d2, d3, d4, d5⟩ := FX.out w' hD.1
                        go_simp; rfl
                      simp only [Act.put, List.setIfInBounds_toArray, List.set_cons_succ, List.set_cons_zero, Nat.reduceAdd]
                      refine wM_val ?ua12 rfl rfl Ext.refl (fun w' hD => ?ha12) (fun pha12 => ?na12)
                      case ha12 =>
                        obtain ⟨d0, d1, d2, d3, d4, d5⟩ := FX.out w' hD.1
                        go_simp; rfl
                      simp only [Act.put, List.setIfInBounds_toArray, List.set_cons_succ, List.set_cons_zero, Nat.reduceAdd]
                      refine wM_val ?ua13 rfl rfl Ext.refl (fun w' hD => ?ha13) (fun pha13 => ?na13)
                      case ha13 =>
                        obtain ⟨d0, d1, d2, d3, d4, d5⟩ := FX.out w' hD.1
                        go_simp; rfl
                      simp only [Act.put, List.setIfInBounds_toArray, List.set_cons_succ, List.set_cons_zero, Nat.reduceAdd]
                      refine wM_val ?ua14 rfl rfl Ext.refl (fun w' hD => ?ha14) (fun pha14 => ?na14)
                      case ha14 =>
                        obtain ⟨d0, d1, d2, d3, d4, d5⟩ := FX.out w' hD.1
                        go_simp; rfl
                      simp only [Act.put, List.setIfInBounds_toArray, List.set_cons_succ, List.set_cons_zero, Nat.reduceAdd]
                      refine wM_val ?ua15 rfl rfl Ext.refl (fun w' hD => ?ha15) (fun pha15 => ?na15)
                      case ha15 =>
                        obtain ⟨d0, d1, d2, d3, d4, d5⟩ := FX.out w' hD.1
                        go_simp; rfl
                      simp only [Act.put, List.setIfInBounds_toArray, List.set_cons_succ, List.set_cons_zero, Nat.reduceAdd]
                      refine wM_val ?ua16 rfl rfl Ext.refl (fun w' hD => ?ha16) (fun pha16 => ?na16)
                      case ha16 =>
                        obtain ⟨d0, d1, d2, d3, d4, d5⟩ := FX.out w' hD.1
                        go_simp; rfl
                      simp only [Act.put, List.setIfInBounds_toArray, List.set_cons_succ, List.set_cons_zero, Nat.reduceAdd]
                      refine wM_val ?ua17 rfl rfl Ext.refl (fun w' hD => ?ha17) (fun pha17 => ?na17)
                      case ha17 =>
                        obtain ⟨d0, d1, d2, d3, d4, d5⟩ := FX.out w' hD.1
                        go_simp; rfl
                      simp only [Act.put, List.setIfInBounds_toArray, List.set_cons_succ, List.set_cons_zero, Nat.reduceAdd]
                      refine wM_val ?ua18 rfl rfl Ext.refl (fun w' hD => ?ha18) (fun pha18 => ?na18)
                      case ha18 =>
                        obtain ⟨d0, d1, d2, d3, d4, d5⟩ := FX.out w' hD.1
                        go_simp; rfl
                      simp only [Act.put, List.setIfInBounds_toArray, List.set_cons_succ, List.set_cons_zero, Nat.reduceAdd]
                      refine wM_val ?ua19 rfl rfl Ext.refl (fun w' hD => ?ha19) (fun pha19 => ?na19)
                      case ha19 =>
                        obtain ⟨d0, d1, d2, d3, d4, d5⟩ := FX.out w' hD.1
                        go_simp; rfl
                      simp only [Act.put, List.setIfInBounds_toArray, List.set_cons_succ, List.set_cons_zero, Nat.reduceAdd]
                      refine wM_val ?ua20 rfl rfl Ext.refl (fun w' hD => ?ha20) (fun pha20 => ?na20)
                      case ha20 =>
                        obtain ⟨d0, d1, d2, d3, d4, d5⟩ := FX.out w' hD.1
                        go_simp; rfl
                      simp only [Act.put, List.setIfInBounds_toArray, List.set_cons_succ, List.set_cons_zero, Nat.reduceAdd]
                      refine wM_val ?ua21 rfl rfl Ext.refl (fun w' hD => ?ha21) (fun pha21 => ?na21)
                      case ha21 =>
                        obtain ⟨d0, d1, d2, d3, d4, d5⟩ := FX.out w' hD.1
                        go_simp; rfl
                      simp only [Act.put, List.setIfInBounds_toArray, List.set_cons_succ, List.set_cons_zero, Nat.reduceAdd]
                      refine wM_val ?ua22 rfl rfl Ext.refl (fun w' hD => ?ha22) (fun pha22 => ?na22)
                      case ha22 =>
                        obtain ⟨d0, d1, d2, d3, d4, d5⟩ := FX.out w' hD.1
                        go_simp; rfl
                      simp only [Act.put, List.setIfInBounds_toArray, List.set_cons_succ, List.set_cons_zero, Nat.reduceAdd]
                      refine wM_val ?ua23 rfl rfl Ext.refl (fun w' hD => ?ha23) (fun pha23 => ?na23)
                      case ha23 =>
                        obtain ⟨d0, d1, d2, d3, d4, d5⟩ := FX.out w' hD.1
                        go_simp; rfl
                      simp only [Act.put, List.setIfInBounds_toArray, List.set_cons_succ, List.set_cons_zero, Nat.reduceAdd]
                      refine wM_val ?ua24 rfl rfl Ext.refl (fun w' hD => ?ha24) (fun pha24 => ?na24)
                      case ha24 =>
                        obtain ⟨d0, d1, d2, d3, d4, d5⟩ := FX.out w' hD.1
                        go_simp; rfl
                      simp only [Act.put, List.setIfInBounds_toArray, List.set_cons_succ, List.set_cons_zero, Nat.reduceAdd]
                      refine wM_val ?ua25 rfl rfl Ext.refl (fun w' hD => ?ha25) (fun pha25 => ?na25)
                      case ha25 =>
                        obtain ⟨d0, d1, d2, d3, d4, d5⟩ := FX.out w' hD.1
                        go_simp; rfl
                      simp only [Act.put, List.setIfInBounds_toArray, List.set_cons_succ, List.set_cons_zero, Nat.reduceAdd]
                      refine wM_val ?ua26 rfl rfl Ext.refl (fun w' hD => ?ha26) (fun pha26 => ?na26)
                      case ha26 =>
                        obtain ⟨d0, d1, d2, d3, d4, d5⟩ := FX.out w' hD.1
                        go_simp; rfl
                      simp only [Act.put, List.setIfInBounds_toArray, List.set_cons_succ, List.set_cons_zero, Nat.reduceAdd]
                      refine wM_val ?ua27 rfl rfl Ext.refl (fun w' hD => ?ha27) (fun pha27 => ?na27)
                      case ha27 =>
                        obtain ⟨d0, d1, d2, d3, d4, d5⟩ := FX.out w' hD.1
                        go_simp; rfl
                      simp only [Act.put, List.setIfInBounds_toArray, List.set_cons_succ, List.set_cons_zero, Nat.reduceAdd]
                      refine wM_op _ rfl rfl (opens_val (fun w' hD => ?ha28)) (fun v28 hv28 => ?na28)
                      case ha28 =>
                        refine ⟨.slice (some ⟨w'.heap.size, 0, none⟩) 2 2, w'.alloc (.cells #[.int .i64 (GG a m + GG m b), .int .i64 100] 3), ?_, Ext.alloc (Ext.refl _) _, ⟨w'.heap.size, rfl, by simp [go_sem], by simp [go_sem]⟩⟩
                        go_simp
                      obtain ⟨_, _, _, B28, rfl, _, _⟩ := hv28
                      simp only [Act.put, List.setIfInBounds_toArray, List.set_cons_succ, List.set_cons_zero, Nat.reduceAdd]
                      refine wM_op _ rfl rfl (opens_call ?fa29 ?ga29 (fun w' hD => ?ha29) (fun w' hD => ?ca29)) (fun v29 hv29 => ?na29)
                      case ha29 => go_simp; constructor <;> rfl
                      case ca29 =>
                        obtain ⟨_, B29, e29, f0, f1⟩ := hD.get 28 (by first | kernel_rfl | simp [Region.binds])
                        cases e29
                        refine (least_any (GG a b) (some ⟨B28, 0, none⟩) 2 [GG a m + GG m b, 100] w' (.inr ⟨B28, 0, rfl, fun j u hu => ?_⟩) (by simp)).mono ?_
                        · match j, hu with
                          | 0, hu => cases hu; exact f0
                          | 1, hu => cases hu; exact f1
                        · rintro e w2 ⟨rfl, rfl⟩
                          exact ⟨_, rfl, Ext.refl _, rfl⟩
                      obtain ⟨_, _, _, rfl⟩ := hv29
                      simp only [Act.put, List.setIfInBounds_toArray, List.set_cons_succ, List.set_cons_zero, Nat.reduceAdd]
                      refine wM_val ?ua30 rfl rfl Ext.refl (fun w' hD => ?ha30) (fun pha30 => ?na30)
                      case ha30 =>
                        obtain ⟨d0, d1, d2, d3, d4, d5⟩ := FX.out w' hD.1
                        go_simp; rfl
                      simp only [Act.put, List.setIfInBounds_toArray, List.set_cons_succ, List.set_cons_zero, Nat.reduceAdd]
                      refine wM_val ?ua31 rfl rfl Ext.refl (fun w' hD => ?ha31) (fun pha31 => ?na31)
                      case ha31 =>
                        obtain ⟨d0, d1, d2, d3, d4, d5⟩ := FX.out w' hD.1
                        go_simp; rfl
                      simp only [Act.put, List.setIfInBounds_toArray, List.set_cons_succ, List.set_cons_zero, Nat.reduceAdd]
                      refine wM_val ?ua32 rfl rfl Ext.refl (fun w' hD => ?ha32) (fun pha32 => ?na32)
                      case ha32 =>
                        obtain ⟨d0, d1, d2, d3, d4, d5⟩ := FX.out w' hD.1
                        go_simp; rfl
                      simp only [Act.put, List.setIfInBounds_toArray, List.set_cons_succ, List.set_cons_zero, Nat.reduceAdd]
                      refine wM_val ?ua33 rfl rfl Ext.refl (fun w' hD => ?ha33) (fun pha33 => ?na33)
                      case ha33 =>
                        obtain ⟨d0, d1, d2, d3, d4, d5⟩ := FX.out w' hD.1
                        go_simp; rfl
                      simp only [Act.put, List.setIfInBounds_toArray, List.set_cons_succ, List.set_cons_zero, Nat.reduceAdd]
                      refine wM_nil ?_
                      intro w9 hw9 hF9
                      rw [HLO.out]
                      have hd9 := hd.ext hw9
                      have c9 := hd9.at_ hlta hltb
                      have f9 := hd9.frozen (5 + a * 8 + b)
                      have hb9 := hid ((hb.trans hw9.bel).setCell (5 + a * 8 + b) (.int .i64 (over G m a b)))
                      have hd10 := hid (HSET.out _ (hd9.set hlta hltb (over G m a b)))
                      clear hF9 FX hd9 hd hb
                      simp only [List.drop_succ_cons, List.drop_zero]
                      go_wp2
                      go_roundw
                      case rel => exact ⟨b + 1, by omega, by go_num, hd10.out, hb9.out⟩
                      case measure => simp [intOf]; omega
                    · have hltb' : ¬ (b : Int) < 8 := by omega
                      have hd2 := hid (hd.congr (till_row _ _ a (by omega)))
                      clear hd
                      go_wp2
                      go_roundw
                      case rel => exact ⟨a + 1, by omega, by go_num, hd2.out, hb⟩
                      case measure => simp [intOf]; omega
                · have hlta' : ¬ (a : Int) < 8 := by omega
                  have hd2 : Hid (Dk wr D s f (overs (far1 f) (m + 1))) := by unfold Hid; rw [HNX.out]; exact hd.congr (till_all _ _ (by omega))
                  clear hd
                  go_wp2
                  go_roundw
                  case rel => exact ⟨m + 1, by omega, by go_num, hd2.out, hb⟩
                  case measure => simp [intOf]; omega
            · have hlt' : ¬ (m : Int) < 8 := by omega
              have hx := hX0.then_bel (by omega) hb
              have hd2 : Hid (Dk wr D s f (farM f)) := by
                obtain rfl : m = 8 := by omega
                exact hd
              have hR2 := hid (hr.ext hx)
              clear hd
              go_wp2
              go_ret2
              exact ⟨_, by rw [H0.out]; rfl, hx, fun _ => ⟨D, s, rfl, hd2.out, hR2.out⟩, fun h => absurd H0.out h⟩
end Go.Proofs.YtlonpgbapiemcaaGreat
