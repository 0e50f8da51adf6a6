/- The law's ring: at which places a blast is heard, by going on from place to place. -/
import Derived.Test.YtlonpgbapiemcaaGreatFRingP
import Derived.Test.YtlonpgbapiemcaaGreatFBesi
import Derived.Test.YtlonpgbapiemcaaGreatFCopy
import Derived.RegionTactic
import Derived.Deep.OwnRows
import Derived.ChangeAlike
namespace Go.Proofs.YtlonpgbapiemcaaGreat
open Go Go.RowKit Go.Shelf
set_option linter.unusedVariables false
set_option linter.unusedSimpArgs false

theorem elem_bool : ElemOK Tryz.prog 75 4 1 1 := by
  refine ⟨Tryz.underlying75, ?_, by decide, by decide⟩
  have h : ((Tryz.prog.info? 4).bind fun i => i.zero.map fun z => (i.size, i.bytes, z.cells.size)) = some (1, 1, 1) := by kernel_rfl
  cases hi : Tryz.prog.info? 4 with
  | none => rw [hi] at h; cases h
  | some i =>
    rw [hi] at h
    cases hz : i.zero with
    | none => simp [hz] at h
    | some z => simp [hz] at h; exact ⟨i, z, rfl, hz, h.1, h.2.1, h.2.2⟩
theorem bools_one (l : List Bool) : ∀ u ∈ l.map Value.bool, u.oneCell' = true := by
  intro u h
  obtain ⟨x, _, rfl⟩ := List.mem_map.1 h
  rfl
set_option maxHeartbeats 1000000 in
theorem clone_bool (ad : Addr) (c : Nat) (l : List Bool) (w : World) (hA : Bools w (some ad) l) (hl : l.length * 1 ≤ 140737488355328) :
    Calls Tryz.prog 100 #[.slice (some ad) l.length c] w fun e w' => ∃ A' c', e = .returned (.slice A' l.length c') ∧
      w'.ownsRow w.heap.size 4 1 (.slice A' l.length c') l.length (l.map Value.bool) ∧ Ext w w' := by
  have q : ∀ (w : World) (a : Option Addr) (n c n' c' : Nat), (binOp .eql 75 (.slice a n c) (.slice none n' c')).run Tryz.prog w = .ok (.bool a.isNone) w := fun w a n c n' c' => Lib.run_eql_slice_nil w _ _ a n c n' c' Tryz.underlying75
  have H1 : Hid ((l.map Value.bool).length = l.length * 1) := by unfold Hid; simp
  have H2 : Hid (Rd w (some ad) (l.map Value.bool)) := hid hA
  have H3 := hid (bools_one l)
  go_enter Tryz.func100, Tryz.ntmps100
  go_wp2_with (at_builtin; refine wpList_append_rd _ rfl _ _ 75 rfl elem_bool w.heap.size _ _ _ rfl (World.ownsRow_made w #[] 0 (Nat.le_refl _) (Nat.zero_le _) (by simp)) (some ad) l.length c (l.map Value.bool) rfl ?qc1 ?qc2 ?qc3 ?qc4 ?qc5 ?_)
  case qc1 => have := H1.out; omega
  case qc2 => exact Rd.ext H2.out (Ext.alloc (Ext.refl w) _)
  case qc3 => exact H3.out
  case qc4 => rw [Nat.zero_add]; exact hl
  case qc5 => simp
  intro A' c' w1 hown hbel hgrow hnil
  clear hnil
  go_wp2
  go_ret
  exact ⟨A', c', ret_of (by simp), by simpa using hown, Below.trans (Below.alloc (Below.refl _ w) (Nat.le_refl _) _) hbel⟩
/-- What ring hands back: a row of its own. -/
def RingPost (w : World) (f : Fg) (a k : Nat) (e : Ending) (w' : World) : Prop :=
  ∃ B, e = .returned (.slice (some ⟨B, 0, none⟩) f.pl.toNat f.pl.toNat) ∧ Ext w w' ∧ Brow w' B (rl f.pl.toNat (ringN f a k))
def ringF (f : Fg) (bef : Nat → Bool) (j : Nat) : Nat → Bool := (f.tr.take j).foldl (ringT bef) bef
theorem ringF_next {f : Fg} {bef : Nat → Bool} {j : Nat} {t : Int × Int} (h : f.tr[j]? = some t) : ringF f bef (j + 1) = ringT bef (ringF f bef j) t := by
  obtain ⟨h1, h2⟩ := List.getElem?_eq_some_iff.1 h
  unfold ringF
  rw [List.take_succ_eq_append_getElem h1, h2, List.foldl_append]; rfl
theorem ringF_all {f : Fg} {a k j : Nat} (h : f.tr.length ≤ j) : ringF f (ringN f a k) j = ringN f a (k + 1) := by
  unfold ringF
  rw [List.take_of_length_le h]; rfl
theorem Brow.bel {D : Nat} {w w' : World} {B : Nat} {l : List Bool} (h : Brow w B l) (hb : Bel D w w') (hn : B ≠ D) : Brow w' B l := (hb.2 B h.lt hn).trans h

set_option maxRecDepth 100000 in
set_option maxHeartbeats 4000000 in
theorem ring_any (v : Value) (f : Fg) (a k : Nat) (w : World) (hf : FgR w v f) (hok : FogOK f) (ha : a < f.pl.toNat) (hk : k ≤ 8) :
    Calls Tryz.prog 28 #[v, .int .i64 (a : Int), .int .i64 (k : Int)] w (RingPost w f a k) := by
  obtain ⟨s, rfl, hr⟩ := hf.rows
  have hp := hok.pl
  have htn := hok.tn
  obtain ⟨P, hP⟩ : ∃ P : Nat, f.pl = P := ⟨f.pl.toNat, by omega⟩
  have HP : Hid (f.pl = P ∧ f.pl.toNat = P) := ⟨hP, by omega⟩
  have HOK := hid hok
  unfold RingPost
  rw [HP.out.2] at ha ⊢
  have hmk := fun w => run_make_row' (P := Tryz.prog) 75 4 (.bool false) 1 Tryz.underlying75 infoBool rfl .i64 .i64 P (by omega) (by omega) w
  obtain ⟨W0, hW0⟩ : ∃ W0, w.alloc (.cells #[.int .i64 (P : Int), .int .i64 f.mi, .slice s.a1 f.tr.length s.c1, .slice s.a2 f.bl.length s.c2, .slice s.a3 f.ct.length s.c3] 29) = W0 := ⟨_, rfl⟩
  have hx0 : Ext w W0 := by rw [← hW0]; exact Ext.alloc (Ext.refl w) _
  have hz0 : W0.heap.size = w.heap.size + 1 := by rw [← hW0]; simp
  have FX : Hid (∀ w', Ext W0 w' → w'.cell? ⟨w.heap.size, 0, none⟩ = some (.int .i64 (P : Int)) ∧ w'.cell? ⟨w.heap.size, 2, none⟩ = some (.slice s.a1 f.tr.length s.c1)) := fun w' h => ⟨h.cell (by rw [← hW0]; simp [go_sem]), h.cell (by rw [← hW0]; simp [go_sem])⟩
  obtain ⟨q0, q2⟩ := FX.out W0 (Ext.refl _)
  have HT : Hid (∀ w', Ext W0 w' → Prs w' s.a1 f.tr) := fun w' h => (hr.ext (hx0.trans h)).tr
  unfold Ads.val fval
  rw [hP] at hp ⊢
  clear hr hf hP hok
  obtain ⟨W2, hW2⟩ : ∃ W2, W0.alloc (.cells (madeCells #[.bool false] P) 4) = W2 := ⟨_, rfl⟩
  have hxW2 : Ext W0 W2 := by rw [← hW2]; exact Ext.alloc (Ext.refl _) _
  have hI0 : Brow W2 (w.heap.size + 1) (rl P fun _ => false) := by
    rw [← hz0, rl_const, ← hW2, made_brow]; exact World.alloc_heap_new _ _
  have hI1 := hI0.set a true
  have hcell := hI0.at_ (rl_get _ ha)
  have hfz := hI0.frozen a
  have ha' : (a : Int) < (P : Int) := by omega
  have hI1 : Hid (Brow (W2.setCell ⟨w.heap.size + 1, a, none⟩ (.bool true)) (w.heap.size + 1) (rl P (ringN f a 0))) := by
    unfold Hid
    rw [← rl_upd] at hI1
    exact hI1
  have hgw : W0.heap.size ≤ w.heap.size + 1 := by omega
  have hxW3 : Ext W0 (W2.setCell ⟨w.heap.size + 1, a, none⟩ (.bool true)) := hxW2.setCell hgw _
  have hx3 := hid hxW3
  have hgz := hid hgw
  clear hI0 hxW2 hxW3 hgw
  go_enter Tryz.func28, Tryz.ntmps28
  go_wp2
  try rw [hz0]
  clear hW0 hW2 hcell hfz hz0 q0 q2 hmk
  generalize hW3 : W2.setCell ⟨w.heap.size + 1, a, none⟩ (.bool true) = W3 at hI1 hx3 ⊢
  clear hW3
  go_loopw [19] (fun i19 wr => ∃ n : Nat, n ≤ k ∧ i19 = .int .i64 (n : Int) ∧ Hid (Brow wr (w.heap.size + 1) (rl P (ringN f a n))) ∧ Ext W0 wr) (fun i _ => k - (intOf i).toNat)
  case atStart => exact ⟨0, Nat.zero_le _, rfl, hI1, hx3.out⟩
  case round =>
    obtain ⟨n, hn, rfl, HB, hx⟩ := hrel
    by_cases hlt : n < k
    · have hlt' : (n : Int) < (k : Int) := by omega
      have K := clone_bool ⟨w.heap.size + 1, 0, none⟩ P (rl P (ringN f a n)) wr HB.out.bools (by rw [rl_len]; omega)
      rw [rl_len] at K
      have HK := hid K
      clear K
      have hgB := HB.out.lt
      go_wp2_with fail
      refine HK.out.mono ?_
      clear HK
      rintro e V ⟨A8, c8, rfl, ho, hb⟩
      have hxV := hx.trans hb
      obtain ⟨bef, hbef⟩ : ∃ bef, ringN f a n = bef := ⟨_, rfl⟩
      have HBE := hid hbef
      rw [hbef] at ho HB
      have hB8 : Bools V A8 (rl P bef) := Rd.of_own ho
      obtain ⟨g8, o8, rfl, -⟩ := hB8.at_ (rl_get bef ha)
      have hg8 : wr.heap.size ≤ g8 := (own_block_lt ho _ rfl).1
      have HB8 := hid hB8
      have HB7 : Hid (Brow V (w.heap.size + 1) (rl P (ringF f bef 0))) := HB.out.ext hb
      obtain ⟨q0, q2⟩ := FX.out V hxV
      clear ho hb hx hB8 hbef HB
      go_wp2
      clear q0 q2
      go_loopw [27] (fun i27 wx => ∃ j : Nat, j ≤ f.tr.length ∧ i27 = .int .i64 (j : Int) ∧ Hid (Brow wx (w.heap.size + 1) (rl P (ringF f bef j))) ∧ Bel (w.heap.size + 1) V wx) (fun i _ => f.tr.length - (intOf i).toNat)
      case atStart => exact ⟨0, Nat.zero_le _, rfl, HB7, Bel.refl _ _⟩
      case round =>
        obtain ⟨j, hj, rfl, HB, hbl⟩ := hrel
        by_cases hltj : j < f.tr.length
        · have hltj' : (j : Int) < (f.tr.length : Int) := by omega
          obtain ⟨t, htj⟩ := get_of_lt f.tr j hltj
          have htr := HOK.out.tr t (mem_of_get htj)
          rw [HP.out.1] at htr
          have HNX := hid (ringF_next (bef := bef) htj)
          have hxx : Ext W0 wr := hxV.then_bel (by have := hgz.out; omega) hbl
          obtain ⟨b1, o1, e1, t0, t1⟩ := Prs.at_ (HT.out wr hxx) htj
          obtain ⟨t1v, t2v⟩ := t
          dsimp only at htr t0 t1
          obtain ⟨x, rfl⟩ : ∃ x : Nat, t1v = x := ⟨t1v.toNat, by omega⟩
          obtain ⟨y, rfl⟩ : ∃ y : Nat, t2v = y := ⟨t2v.toNat, by omega⟩
          rw [e1]
          have hxP : x < P := by omega
          have hyP : y < P := by omega
          have hx1 : (x : Int) < (P : Int) := by omega
          have hy1 : (y : Int) < (P : Int) := by omega
          have hne : x ≠ y := by omega
          have c1 := HB.out.at_ (rl_get (ringF f bef j) hxP)
          have c2 := HB.out.at_ (rl_get (ringF f bef j) hyP)
          have z1 := HB.out.frozen x
          have z2 := HB.out.frozen y
          have hB8 : Bools wr (some ⟨g8, o8, none⟩) (rl P bef) := hbl.rd HB8.out (fun a ha => by cases ha; show g8 ≠ _; omega)
          obtain ⟨b2, o2, e2, d1⟩ := hB8.at_ (rl_get bef hxP)
          cases e2
          obtain ⟨b3, o3, e3, d2⟩ := hB8.at_ (rl_get bef hyP)
          cases e3
          obtain ⟨X1, hX1⟩ : ∃ X1, ringF f bef j x = X1 := ⟨_, rfl⟩
          obtain ⟨X2, hX2⟩ : ∃ X2, ringF f bef j y = X2 := ⟨_, rfl⟩
          obtain ⟨Y1, hY1⟩ : ∃ Y1, bef x = Y1 := ⟨_, rfl⟩
          obtain ⟨Y2, hY2⟩ : ∃ Y2, bef y = Y2 := ⟨_, rfl⟩
          rw [hX1] at c1
          rw [hX2] at c2
          rw [hY1] at d1
          rw [hY2] at d2
          have hg1 := HB.out.lt
          have hN8 : g8 < wr.heap.size := block_lt_of_cell d1
          obtain ⟨W5, hW5⟩ : ∃ W5, wr.alloc (.cells #[.int .i64 (x : Int), .int .i64 (y : Int)] 78) = W5 := ⟨_, rfl⟩
          have hx5 : Ext wr W5 := by rw [← hW5]; exact Ext.alloc (Ext.refl _) _
          have p0 : W5.cell? ⟨wr.heap.size, 0, none⟩ = some (.int .i64 (x : Int)) := by rw [← hW5]; simp [go_sem]
          have p1 : W5.cell? ⟨wr.heap.size, 1, none⟩ = some (.int .i64 (y : Int)) := by rw [← hW5]; simp [go_sem]
          have c1' := hx5.cell c1
          have c2' := hx5.cell c2
          have d1' := hx5.cell d1
          have d2' := hx5.cell d2
          have HB5 := HB.out.ext hx5
          have z1' := HB5.frozen x
          have z2' := HB5.frozen y
          have hNe : ¬ wr.heap.size = w.heap.size + 1 := by omega
          have hNe2 : ¬ w.heap.size + 1 = wr.heap.size := by omega
          have hNe3 : ¬ g8 = w.heap.size + 1 := by omega
          have hNe4 : ¬ w.heap.size + 1 = g8 := by omega
          have hNe5 : ¬ x = y := hne
          have hNe6 : ¬ y = x := fun e => hne e.symm
          have HNB : Hid (∀ v1 v2 : Bool, v1 = (X1 || Y2) → v2 = (X2 || Y1) → Brow (((W5.setCell ⟨w.heap.size + 1, x, none⟩ (.bool v1)).setCell ⟨w.heap.size + 1, y, none⟩ (.bool v2)).drew) (w.heap.size + 1) (rl P (ringF f bef (j + 1)))) := fun v1 v2 h1 h2 => by
            have h := ((HB5.set x v1).set y v2).ext (Ext.drew (Ext.refl _))
            rw [HNX.out]
            unfold ringT
            simp only [Int.toNat_natCast]
            rw [hX1, hX2, hY1, hY2, rl_upd, rl_upd, ← h1, ← h2]
            exact h
          have HBN : Hid (∀ v1 v2 : Bool, Bel (w.heap.size + 1) V (((W5.setCell ⟨w.heap.size + 1, x, none⟩ (.bool v1)).setCell ⟨w.heap.size + 1, y, none⟩ (.bool v2)).drew)) := fun v1 v2 => (((hbl.trans hx5.bel).setCell x _).setCell y _).drew
          clear hX1 hX2 hY1 hY2 htj hbl hB8 e1 HB5 HNX
          go_wp2
          try rw [hW5]
          clear hW5 c1 c2 d1 d2 z1 z2 t0 t1
          cases X1
          case false =>
           cases X2
           case false =>
            as_aux_lemma =>
            go_region
            go_wp2
            go_roundw
            case rel => exact ⟨j + 1, by omega, by go_num, HNB.out _ _ (by first | rfl | simp) (by first | rfl | simp), HBN.out _ _⟩
            case measure => simp [intOf]; omega
           case true =>
            as_aux_lemma =>
            go_region
            go_wp2
            go_roundw
            case rel => exact ⟨j + 1, by omega, by go_num, HNB.out _ _ (by first | rfl | simp) (by first | rfl | simp), HBN.out _ _⟩
            case measure => simp [intOf]; omega
          case true =>
           cases X2
           case false =>
            as_aux_lemma =>
            go_region
            go_wp2
            go_roundw
            case rel => exact ⟨j + 1, by omega, by go_num, HNB.out _ _ (by first | rfl | simp) (by first | rfl | simp), HBN.out _ _⟩
            case measure => simp [intOf]; omega
           case true =>
            as_aux_lemma =>
            go_region
            go_wp2
            go_roundw
            case rel => exact ⟨j + 1, by omega, by go_num, HNB.out _ _ (by first | rfl | simp) (by first | rfl | simp), HBN.out _ _⟩
            case measure => simp [intOf]; omega
        · have hltj' : ¬ (j : Int) < (f.tr.length : Int) := by omega
          have hxx : Ext W0 wr := hxV.then_bel (by have := hgz.out; omega) hbl
          have HB9 : Hid (Brow wr (w.heap.size + 1) (rl P (ringN f a (n + 1)))) := by
            have h := HB.out
            rw [← HBE.out, ringF_all (by omega)] at h
            exact h
          clear HB hbl
          go_wp2
          go_roundw
          case rel => exact ⟨n + 1, by omega, by go_num, HB9, hxx⟩
          case measure => simp [intOf]; omega
    · have hlt' : ¬ (n : Int) < (k : Int) := by omega
      have hnk : n = k := by omega
      have HB9 : Hid (Brow wr (w.heap.size + 1) (rl P (ringN f a k))) := by rw [← hnk]; exact HB
      clear HB hnk
      go_wp2
      go_ret
      exact ⟨w.heap.size + 1, rfl, hx0.trans hx, HB9.out⟩
end Go.Proofs.YtlonpgbapiemcaaGreat
