/- The walks of lowers, slices.MinFunc over ratios, and Under. The walk of slices.MinFunc over ratios, with the comparer of Bounds. Printed by my gen_bmin.py. The walk of boil.Bounds. Printed by my gen_bbounds.py. The walks of boil.Meat and Kept. Printed by my gen_bmeat.py. -/
import Derived.Test.YtjnobdcbbboeeaaGreatH5
import Derived.Test.YtjnobdcbbboeeaaGreatH2
import Derived.OwnWalk
import Derived.Deep.QuietTactic
import Derived.BigQuiet
import Derived.Deep.RegionHeld3
import Derived.Test.YtjnobdcbbboeeaaGreatH3
namespace Go.Proofs.YtjnobdcbbboeeaaGreat
open Go Go.RowKit Go.Shelf
set_option linter.unusedVariables false
set_option linter.unusedSimpArgs false

/-- The ratios of a list of weighings, one after the other. -/
def takeR (l : List Wg) (P : Wg → Bool) (f : Wg → Rt) (k : Nat) : List Rt := ((l.take k).filter P).map f
theorem takeR_next {l : List Wg} {P : Wg → Bool} {f : Wg → Rt} {k : Nat} {x : Wg} (h : l[k]? = some x) : takeR l P f (k + 1) = takeR l P f k ++ if P x = true then [f x] else [] := by
  unfold takeR
  rw [take_nxt h, List.filter_append, List.map_append]
  congr 1
  by_cases e : P x = true
  · rw [if_pos e]; simp [e]
  · rw [if_neg e]; simp [e]
theorem takeR_all {l : List Wg} {P : Wg → Bool} {f : Wg → Rt} {k : Nat} (h : l.length ≤ k) : takeR l P f k = (l.filter P).map f := by
  unfold takeR; rw [List.take_of_length_le h]
theorem takeR_len (l : List Wg) (P : Wg → Bool) (f : Wg → Rt) (k : Nat) : (takeR l P f k).length ≤ k := by
  unfold takeR
  rw [List.length_map]
  have h1 := List.length_filter_le P (l.take k)
  have h2 := List.length_take_le k l
  omega
/-- The weighings' numbers are in their limits. -/
def WgsIn (h : Hs) : Prop := ∀ x ∈ h.ws, (1 ≤ x.sl ∧ x.sl ≤ 1000) ∧ (1 ≤ x.sh ∧ x.sh ≤ 1000) ∧ (1 ≤ x.ml ∧ x.ml ≤ 1000) ∧ (1 ≤ x.mh ∧ x.mh ≤ 1000)
theorem HsOK.inn {h : Hs} (k : HsOK h) : WgsIn h := fun x hx => by have := k.ms x hx; omega
/-- A row of ratios of the call's own. -/
def OwnRt (w : World) (B : Nat) (r : Value) (l : List Rt) : Prop := ∃ A c, r = .slice A l.length c ∧ w.ownsRow B 63 2 (.slice A l.length c) l.length (layPr.rows l)
theorem rd_blk2 {w : World} {B : Nat} {xs : List Value} {T : TypeId} {fr : Nat × Nat} (h : w.heap[B]? = some (.cells xs.toArray T fr)) : Rd w (some ⟨B, 0, none⟩) xs := by
  refine .inr ⟨B, 0, rfl, fun j u hu => ?_⟩
  rw [Nat.zero_add, cell_of_row w B j _ _ _ h]
  simpa using hu
set_option maxRecDepth 100000 in
set_option maxHeartbeats 4000000 in
theorem lowers_any (v : Value) (h : Hs) (m : Int) (w : World) (hr : HsR w v h) (hl : h.ws.length ≤ 14) (hi : WgsIn h) :
    Calls Tryz.prog 52 #[v, .int .i64 m] w fun e w' => ∃ r, e = .returned r ∧ Ext w w' ∧ OwnRt w' w.heap.size r (lowsH h m) := by
  obtain ⟨A, c, rfl, hrw, hcap⟩ := hr
  obtain ⟨w1, hw1⟩ : ∃ w1, w.alloc (.cells #[.int .i64 h.mo, .int .i64 h.pk, .slice A h.ws.length c] 25) = w1 := ⟨_, rfl⟩
  have hx1 : Ext w w1 := by rw [← hw1]; exact Ext.alloc (Ext.refl w) _
  have b1 : w1.heap[w.heap.size]? = some (.cells #[.int .i64 h.mo, .int .i64 h.pk, .slice A h.ws.length c] 25 (0, 0)) := by rw [← hw1]; exact heap_alloc_new w _
  have FH : Hid (∀ w', Ext w1 w' → w'.cell? ⟨w.heap.size, 0, none⟩ = some (.int .i64 h.mo) ∧ w'.cell? ⟨w.heap.size, 1, none⟩ = some (.int .i64 h.pk) ∧ w'.cell? ⟨w.heap.size, 2, none⟩ = some (.slice A h.ws.length c)) := fun w' hx =>
    ⟨hx.cell (by rw [cell_of_row w1 w.heap.size 0 _ _ _ b1]; rfl), hx.cell (by rw [cell_of_row w1 w.heap.size 1 _ _ _ b1]; rfl), hx.cell (by rw [cell_of_row w1 w.heap.size 2 _ _ _ b1]; rfl)⟩
  have HRW : Hid (∀ w', Ext w1 w' → Wgs w' A h.ws) := fun w' hx => Rows.ext hrw (hx1.trans hx)
  have KU : Hid (∀ (a : Int) w', Ext w1 w' → Calls Tryz.prog 62 #[.agg #[.int .i64 h.mo, .int .i64 h.pk, .slice A h.ws.length c], .int .i64 a, .int .i64 m] w' fun e w2 => e = .returned (.bool (undH h a m)) ∧ Ext w' w2) := fun a w' hx => under_any _ h a m w' ⟨A, c, rfl, HRW.out w' hx, hcap⟩
  have HV : Hid (lowsH h m = takeR h.ws (fun x => undH h x.mo m) Wg.lo h.ws.length) := (takeR_all (Nat.le_refl _)).symm
  have HTL := hid (takeR_len h.ws (fun x => undH h x.mo m) Wg.lo)
  have HI := hid hi
  have HW1 := hid hw1
  clear hw1 hrw b1 hi
  unfold hval
  go_enter Tryz.func52, Tryz.ntmps52
  go_upto_region 1 with fail
  rw [HW1.out]
  clear HW1
  obtain ⟨c0, c1, c2⟩ := FH.out w1 (Ext.refl _)
  go_wp2
  clear c0 c1 c2
  go_loopw [5, 11] (fun s5 i11 wr => ∃ (k n : Nat) (A' : Option Addr) (c' : Nat), k ≤ h.ws.length ∧ i11 = .int .i64 (k : Int) ∧ (takeR h.ws (fun x => undH h x.mo m) Wg.lo k).length = n ∧ s5 = .slice A' n c' ∧ wr.ownsRow w1.heap.size 63 2 (.slice A' n c') n (layPr.rows (takeR h.ws (fun x => undH h x.mo m) Wg.lo k)) ∧ Ext w1 wr) (fun _ i _ => h.ws.length - (intOf i).toNat)
  case atStart => exact ⟨0, 0, none, 0, Nat.zero_le _, rfl, rfl, rfl, own_nil _ _ _ _, Ext.refl _⟩
  case round =>
    obtain ⟨k, n, A', c', hk, rfl, hn, rfl, ho, hx⟩ := hrel
    have hnk := HTL.out k
    rw [hn] at hnk
    by_cases hlt : k < h.ws.length
    · have hltI : (k : Int) < (h.ws.length : Int) := by omega
      have hk1 : k + 1 ≤ h.ws.length := hlt
      obtain ⟨x, hq⟩ := get_of_lt h.ws k hlt
      have hxi := HI.out x (mem_of_get hq)
      have hnx := takeR_next (P := fun x => undH h x.mo m) (f := Wg.lo) hq
      obtain ⟨bA, oA, eA, g0, g1, g2, g3, g4⟩ := Wgs.at_ (HRW.out wr hx) hq
      obtain ⟨R, hR⟩ : ∃ R, x.lo = R := ⟨_, rfl⟩
      have KLo := least_any x
      rw [hR] at KLo
      have KL : Hid (∀ w', Calls Tryz.prog 34 #[.agg #[.int .i64 x.mo, .int .i64 x.sl, .int .i64 x.sh, .int .i64 x.ml, .int .i64 x.mh]] w' fun e w2 => e = .returned (.agg #[.int .i64 R.1, .int .i64 R.2]) ∧ Ext w' w2) := fun w' => KLo w' hxi
      obtain ⟨W1, hW1⟩ : ∃ W1, wr.alloc (.cells #[.int .i64 x.mo, .int .i64 x.sl, .int .i64 x.sh, .int .i64 x.ml, .int .i64 x.mh] 67) = W1 := ⟨_, rfl⟩
      have hxa : Ext wr W1 := by rw [← hW1]; exact Ext.alloc (Ext.refl _) _
      have bV : W1.heap[wr.heap.size]? = some (.cells #[.int .i64 x.mo, .int .i64 x.sl, .int .i64 x.sh, .int .i64 x.ml, .int .i64 x.mh] 67 (0, 0)) := by rw [← hW1]; exact heap_alloc_new wr _
      have FV : Hid (∀ w', Ext W1 w' → w'.cell? ⟨wr.heap.size, 0, none⟩ = some (.int .i64 x.mo) ∧ w'.cell? ⟨wr.heap.size, 1, none⟩ = some (.int .i64 x.sl) ∧ w'.cell? ⟨wr.heap.size, 2, none⟩ = some (.int .i64 x.sh) ∧ w'.cell? ⟨wr.heap.size, 3, none⟩ = some (.int .i64 x.ml) ∧ w'.cell? ⟨wr.heap.size, 4, none⟩ = some (.int .i64 x.mh)) := fun w' q =>
        ⟨q.cell (by rw [cell_of_row W1 wr.heap.size 0 _ _ _ bV]; rfl), q.cell (by rw [cell_of_row W1 wr.heap.size 1 _ _ _ bV]; rfl), q.cell (by rw [cell_of_row W1 wr.heap.size 2 _ _ _ bV]; rfl), q.cell (by rw [cell_of_row W1 wr.heap.size 3 _ _ _ bV]; rfl), q.cell (by rw [cell_of_row W1 wr.heap.size 4 _ _ _ bV]; rfl)⟩
      have HW1 := hid hW1
      have HNX := hid hnx
      have HR := hid hR
      have HN := hid hn
      have HO := hid ho
      have hx1a := hx.trans hxa
      have HEA := hid eA
      rw [eA]
      clear hW1 bV hq eA hnx hR hn ho KLo
      obtain ⟨c0, c1, c2⟩ := FH.out wr hx
      go_upto_region 5 with fail
      rw [HW1.out]
      clear HW1 g0 g1 g2 g3 g4 c0 c1 c2
      obtain ⟨c0, c1, c2⟩ := FH.out W1 hx1a
      rw [HEA.out] at c2
      obtain ⟨d0, d1, d2, d3, d4⟩ := FV.out W1 (Ext.refl _)
      have KU2 := KU.out x.mo W1 hx1a
      rw [HEA.out] at KU2
      have HK2 := hid KU2
      clear KU2
      go_wp2_with fail
      refine HK2.out.mono ?_
      clear c0 c1 c2 d0 d1 d2 d3 d4 HK2
      rintro e w2 ⟨rfl, h2⟩
      have hx2 := hx1a.trans h2
      cases hU : undH h x.mo m
      case false =>
        have HNE : Hid (takeR h.ws (fun x => undH h x.mo m) Wg.lo (k + 1) = takeR h.ws (fun x => undH h x.mo m) Wg.lo k) := by unfold Hid; rw [HNX.out]; simp [hU]
        have HO2 := hid (own_below HO.out (hxa.trans h2))
        clear hU HNX HO
        go_wp2
        go_roundw
        case rel => exact ⟨k + 1, n, A', c', hk1, by go_num, by rw [HNE.out, HN.out], rfl, by rw [HNE.out]; exact HO2.out, hx2⟩
        case measure => simp [intOf]; omega
      case true =>
        have HNE : Hid (takeR h.ws (fun x => undH h x.mo m) Wg.lo (k + 1) = takeR h.ws (fun x => undH h x.mo m) Wg.lo k ++ [R]) := by unfold Hid; rw [HNX.out]; simp [hU, HR.out]
        clear hU HNX
        obtain ⟨d0, d1, d2, d3, d4⟩ := FV.out w2 h2
        go_wp2_with fail
        refine (KL.out w2).mono ?_
        clear d0 d1 d2 d3 d4 KL
        rintro e w3 ⟨rfl, h3⟩
        obtain ⟨W5, hW5⟩ : ∃ W5, w3.alloc (.cells #[.int .i64 R.1, .int .i64 R.2] 63) = W5 := ⟨_, rfl⟩
        have hx5 : Ext w3 W5 := by rw [← hW5]; exact Ext.alloc (Ext.refl _) _
        have HRD : Hid (Rd W5 (some ⟨w3.heap.size, 0, none⟩) [.int .i64 R.1, .int .i64 R.2]) := by unfold Hid; rw [← hW5]; exact rd_blk2 (heap_alloc_new w3 _)
        have HO5 := hid (own_below HO.out (((hxa.trans h2).trans h3).trans hx5))
        have hx15 := (hx2.trans h3).trans hx5
        have sz5 : w1.heap.size ≤ W5.heap.size := hx15.size
        clear HO
        go_wp2_with (at_builtin; (try rw [hW5]); refine wpList_append_rd2 _ rfl _ _ 26 rfl elem_rat w1.heap.size _ n (layPr.rows (takeR h.ws (fun x => undH h x.mo m) Wg.lo k)) rfl HO5.out (some ⟨w3.heap.size, 0, none⟩) 1 1 [.int .i64 R.1, .int .i64 R.2] rfl rfl HRD.out (by intro u hu; simp at hu; rcases hu with rfl | rfl <;> rfl) (by omega) sz5 ?_)
        intro A6 c6 W6 own6 hbel6 hgr6 hloc6
        have hx6 : Ext w1 W6 := Ext.grown hx15 hgr6 (fun g e => (HO5.out.lt g e).1)
        have hown : W6.ownsRow w1.heap.size 63 2 (.slice A6 (n + 1) c6) (n + 1) (layPr.rows (takeR h.ws (fun x => undH h x.mo m) Wg.lo (k + 1))) := by
          rw [HNE.out, layPr.rows_app, layPr.rows_single]; exact own6
        have HO6 := hid hown
        have hn1 : (takeR h.ws (fun x => undH h x.mo m) Wg.lo (k + 1)).length = n + 1 := by rw [HNE.out, List.length_append, HN.out]; rfl
        have HN1 := hid hn1
        clear own6 hbel6 hgr6 hloc6 HO5 HRD hW5 hx5 hown hn1
        go_wp2
        go_roundw
        case rel => exact ⟨k + 1, n + 1, A6, c6, hk1, by go_num, HN1.out, rfl, HO6.out, hx6⟩
        case measure => simp [intOf]; omega
    · obtain rfl : k = h.ws.length := by omega
      have HO := hid ho
      have HN := hid hn
      have hxw := hx1.trans hx
      clear ho hn
      go_wp2
      go_ret
      refine ⟨_, rfl, hxw, A', c', ?_, ?_⟩
      · rw [HV.out, HN.out]; rfl
      · rw [HV.out, HN.out]; exact own_base HO.out hx1.size
end Go.Proofs.YtjnobdcbbboeeaaGreat

namespace Go.Proofs.YtjnobdcbbboeeaaGreat
open Go Go.RowKit Go.Shelf
set_option linter.unusedVariables false
set_option linter.unusedSimpArgs false

theorem cmp_any (a b : Rt) (w : World) (ha : Rsm a) (hb : Rsm b) :
    Calls Tryz.prog 88 #[.agg #[.int .i64 a.1, .int .i64 a.2], .agg #[.int .i64 b.1, .int .i64 b.2]] w fun e w' => e = .returned (.int .i64 (a.1 * b.2 - b.1 * a.2)) ∧ Ext w w' := by
  have p1 := mul_small ha.1 hb.2
  have p2 := mul_small hb.1 ha.2
  have H1 : IntKind.i64.wrap (a.1 * b.2) = a.1 * b.2 := IntWalk.i64_in _ ⟨by omega, by omega⟩
  have H2 : IntKind.i64.wrap (b.1 * a.2) = b.1 * a.2 := IntWalk.i64_in _ ⟨by omega, by omega⟩
  have H3 : IntKind.i64.wrap (a.1 * b.2 - b.1 * a.2) = a.1 * b.2 - b.1 * a.2 := IntWalk.i64_in _ ⟨by omega, by omega⟩
  clear p1 p2
  go_enter Tryz.func88, Tryz.ntmps88
  go_wp2
  go_ret
  exact ⟨rfl, Ext.alloc (Ext.alloc (Ext.refl w) _) _⟩
theorem min_snoc (q : Rt) : ∀ (l : List Rt) (r : Rt), minR r (l ++ [q]) = if abv (minR r l) q = true then q else minR r l
  | [], r => rfl
  | x :: l, r => min_snoc q l _
theorem min_small : ∀ (l : List Rt) (r : Rt), Rsm r → (∀ q ∈ l, Rsm q) → Rsm (minR r l)
  | [], r, hr, _ => hr
  | q :: l, r, hr, hl => by
    unfold minR
    split
    · exact min_small l q (hl q List.mem_cons_self) fun x hx => hl x (List.mem_cons_of_mem _ hx)
    · exact min_small l r hr fun x hx => hl x (List.mem_cons_of_mem _ hx)
set_option maxRecDepth 100000 in
set_option maxHeartbeats 4000000 in
theorem minf_any (A : Option Addr) (c : Nat) (a : Rt) (t : List Rt) (w : World) (hA : Prs w A (a :: t)) (hl : t.length ≤ 1000) (hs : ∀ q ∈ a :: t, Rsm q) :
    Calls Tryz.prog 87 #[.slice A (t.length + 1) c, .func (.func 88) #[] #[]] w fun e w' => e = .returned (rval (minR a t)) ∧ Ext w w' := by
  have HS := hid hs
  have HA : Hid (∀ w', Ext w w' → Prs w' A (a :: t)) := fun w' h => Rows.ext hA h
  obtain ⟨bA, oA, eA, -⟩ := Prs.at_ hA (i := 0) (x := a) rfl
  subst eA
  obtain ⟨w1, hw1⟩ : ∃ w1, w.alloc (.cells #[.int .i64 0, .int .i64 0] 63) = w1 := ⟨_, rfl⟩
  obtain ⟨w2, hw2⟩ : ∃ w2, w1.alloc (.cells #[.int .i64 a.1, .int .i64 a.2] 63) = w2 := ⟨_, rfl⟩
  have hx1 : Ext w w1 := by rw [← hw1]; exact Ext.alloc (Ext.refl w) _
  have hx2' : Ext w1 w2 := by rw [← hw2]; exact Ext.alloc (Ext.refl w1) _
  have hx2 := hx1.trans hx2'
  have s1 : w1.heap.size = w.heap.size + 1 := by rw [← hw1]; simp
  have b1 : w2.heap[w.heap.size]? = some (.cells #[.int .i64 0, .int .i64 0] 63 (0, 0)) := (Below.block hx2' w.heap.size (by omega)).trans (by rw [← hw1]; exact heap_alloc_new w _)
  have b2 : w2.heap[w.heap.size + 1]? = some (.cells #[.int .i64 a.1, .int .i64 a.2] 63 (0, 0)) := by rw [← hw2, ← s1]; exact heap_alloc_new w1 _
  have HW1 := hid hw1
  have HW2 := hid hw2
  have HS1 := hid s1
  have HB1 := hid b1
  have HB2 := hid b2
  have f1 : (t.length + 1 : Int) ≥ 1 := by omega
  have f2 : ¬ (t.length : Int) + 1 < 1 := by omega
  clear hw1 hw2 hA hx2' s1 b1 b2 hs
  go_enter Tryz.func87, Tryz.ntmps87
  go_upto_region 1 with fail
  rw [HW1.out]
  obtain ⟨x1, x2, x3, g0, g1⟩ := Prs.at_ (HA.out w1 hx1) (i := 0) (x := a) rfl
  cases x3
  simp only [Nat.zero_mul, Nat.add_zero] at g0 g1
  have f3 : (0 : Int) < (t.length : Int) + 1 := by omega
  go_upto_region 4 with fail
  rw [HW2.out, HS1.out]
  clear g0 g1 HW1 HW2
  go_wp2
  go_loopw [6] (fun i6 wr => ∃ j : Nat, j ≤ t.length ∧ i6 = .int .i64 ((j + 1 : Nat) : Int) ∧ Ext w wr ∧ w.heap.size + 2 ≤ wr.heap.size ∧ wr.heap[w.heap.size]? = some (.cells #[.int .i64 0, .int .i64 0] 63 (0, 0)) ∧ wr.heap[w.heap.size + 1]? = some (.cells #[.int .i64 (minR a (t.take j)).1, .int .i64 (minR a (t.take j)).2] 63 (0, 0))) (fun i _ => t.length + 1 - (intOf i).toNat)
  case atStart => exact ⟨0, Nat.zero_le _, rfl, hx2, by have := (Array.getElem?_eq_some_iff.1 HB2.out).1; omega, HB1.out, HB2.out⟩
  case round =>
    obtain ⟨j, hj, rfl, hx, hsz, hb1, hb2⟩ := hrel
    obtain ⟨G, hG⟩ : ∃ G, minR a (t.take j) = G := ⟨_, rfl⟩
    have hGs : Rsm G := by rw [← hG]; exact min_small _ _ (HS.out a List.mem_cons_self) fun q hq => HS.out q (List.mem_cons_of_mem _ (List.mem_of_mem_take hq))
    rw [hG] at hb2
    by_cases hlt : j < t.length
    · have hltI : ((j + 1 : Nat) : Int) < ((t.length + 1 : Nat) : Int) := by omega
      have hltI2 : (j : Int) < (t.length : Int) := by omega
      have hj1 : j + 1 ≤ t.length := hlt
      obtain ⟨x, hq⟩ := get_of_lt t j hlt
      have hqs := HS.out x (List.mem_cons_of_mem _ (mem_of_get hq))
      obtain ⟨x1, x2, x3, g0, g1⟩ := Prs.at_ (HA.out wr hx) (i := j + 1) (x := x) (by simpa using hq)
      cases x3
      have hnx := min_snoc x (t.take j) a
      rw [← take_nxt hq, hG] at hnx
      obtain ⟨c0, c1, cf⟩ := rat_cells hb2
      obtain ⟨DV, hDV⟩ : ∃ DV, x.1 * G.2 - G.1 * x.2 = DV := ⟨_, rfl⟩
      have hab : abv G x = decide (DV < 0) := by unfold abv; rw [decide_eq_decide]; omega
      have KC : Hid (∀ w', Ext wr w' → Calls Tryz.prog 88 #[.agg #[.int .i64 x.1, .int .i64 x.2], .agg #[.int .i64 G.1, .int .i64 G.2]] w' fun e w2 => e = .returned (.int .i64 DV) ∧ Ext w' w2) := fun w' _ => by
        have K := cmp_any x G w' hqs hGs
        rw [hDV] at K; exact K
      have FX : Hid (∀ w', Ext wr w' → (w'.cell? ⟨bA, oA + (j + 1) * 2, none⟩ = some (.int .i64 x.1) ∧ w'.cell? ⟨bA, oA + (j + 1) * 2 + 1, none⟩ = some (.int .i64 x.2)) ∧ w'.cell? ⟨w.heap.size + 1, 0, none⟩ = some (.int .i64 G.1) ∧ w'.cell? ⟨w.heap.size + 1, 1, none⟩ = some (.int .i64 G.2)) := fun w' h => ⟨⟨h.cell g0, h.cell g1⟩, h.cell c0, h.cell c1⟩
      have HNX := hid hnx
      have HB1r := hid hb1
      have HB2r := hid hb2
      clear hnx hG hDV hq c0 c1 cf g0 g1 hb1 hb2
      by_cases hD0 : DV < 0
      · have HN : Hid (minR a (t.take (j + 1)) = x) := by unfold Hid; rw [HNX.out, hab]; simp [hD0]
        clear hab HNX
        go_wp2
        refine wp_region_shut Ext (fun w' => Ext wr w') (fun
          | 6 => some (fun v _ => v = .int .i64 DV)
          | _ => none) (by kernel_rfl) (by kernel_rfl) (fun _ _ h k => h.trans k) ?hTra (Ext.drew (Ext.refl wr)) ?_
        case hTra =>
          intro i R hR
          match i, hR with
          | 6, hR => cases hR; exact fun _ _ _ h _ => h
        refine wM_val ?ura0 rfl rfl Ext.refl (fun w' hD => ?hra0) (fun phra0 => ?nra0)
        case hra0 =>
          obtain ⟨⟨d0, d1⟩, e0, e1⟩ := FX.out w' hD.1
          go_simp; rfl
        simp only [Act.put, List.setIfInBounds_toArray, List.set_cons_succ, List.set_cons_zero, Nat.reduceAdd]
        refine wM_val ?ura1 rfl rfl Ext.refl (fun w' hD => ?hra1) (fun phra1 => ?nra1)
        case hra1 =>
          obtain ⟨⟨d0, d1⟩, e0, e1⟩ := FX.out w' hD.1
          go_simp; rfl
        simp only [Act.put, List.setIfInBounds_toArray, List.set_cons_succ, List.set_cons_zero, Nat.reduceAdd]
        refine wM_val ?ura2 rfl rfl Ext.refl (fun w' hD => ?hra2) (fun phra2 => ?nra2)
        case hra2 =>
          obtain ⟨⟨d0, d1⟩, e0, e1⟩ := FX.out w' hD.1
          go_simp; rfl
        simp only [Act.put, List.setIfInBounds_toArray, List.set_cons_succ, List.set_cons_zero, Nat.reduceAdd]
        refine wM_val ?ura3 rfl rfl Ext.refl (fun w' hD => ?hra3) (fun phra3 => ?nra3)
        case hra3 =>
          obtain ⟨⟨d0, d1⟩, e0, e1⟩ := FX.out w' hD.1
          go_simp; rfl
        simp only [Act.put, List.setIfInBounds_toArray, List.set_cons_succ, List.set_cons_zero, Nat.reduceAdd]
        refine wM_val ?ura4 rfl rfl Ext.refl (fun w' hD => ?hra4) (fun phra4 => ?nra4)
        case hra4 =>
          obtain ⟨⟨d0, d1⟩, e0, e1⟩ := FX.out w' hD.1
          go_simp; rfl
        simp only [Act.put, List.setIfInBounds_toArray, List.set_cons_succ, List.set_cons_zero, Nat.reduceAdd]
        refine wM_val ?ura5 rfl rfl Ext.refl (fun w' hD => ?hra5) (fun phra5 => ?nra5)
        case hra5 =>
          obtain ⟨⟨d0, d1⟩, e0, e1⟩ := FX.out w' hD.1
          go_simp; rfl
        simp only [Act.put, List.setIfInBounds_toArray, List.set_cons_succ, List.set_cons_zero, Nat.reduceAdd]
        refine wM_op _ rfl rfl (opens_call ?fra6 ?gra6 (fun w' hD => ?hra6) (fun w' hD => ?cra6)) (fun v6 hv6 => ?nra6)
        case hra6 => go_simp; constructor <;> rfl
        case cra6 =>
          refine (KC.out w' hD.1).mono ?_
          rintro e w2 ⟨rfl, hb⟩
          exact ⟨_, rfl, hb, rfl⟩
        obtain ⟨_, -, -, rfl⟩ := hv6
        simp only [Act.put, List.setIfInBounds_toArray, List.set_cons_succ, List.set_cons_zero, Nat.reduceAdd]
        refine wM_val ?ura7 rfl rfl Ext.refl (fun w' hD => ?hra7) (fun phra7 => ?nra7)
        case hra7 =>
          obtain ⟨⟨d0, d1⟩, e0, e1⟩ := FX.out w' hD.1
          go_simp; rfl
        simp only [Act.put, List.setIfInBounds_toArray, List.set_cons_succ, List.set_cons_zero, Nat.reduceAdd]
        refine wM_nil ?_
        intro w9 hw9 hF9
        clear hF9

        have hx9 := hx.trans hw9
        have hb2' := (Below.block hw9 (w.heap.size + 1) (by omega)).trans HB2r.out
        have hb1' := (Below.block hw9 w.heap.size (by omega)).trans HB1r.out
        obtain ⟨c0, c1, cf⟩ := rat_cells hb2'
        obtain ⟨⟨g0, g1⟩, -⟩ := FX.out w9 hw9
        have b15 := rat_put hb2' (.int .i64 x.1) (.int .i64 x.2)
        have hx5 := Ext.setCell (Ext.setCell hx9 (p := ⟨w.heap.size + 1, 0, none⟩) (Nat.le_succ _) (.int .i64 x.1)) (p := ⟨w.heap.size + 1, 1, none⟩) (Nat.le_succ _) (.int .i64 x.2)
        have b25 : ((w9.setCell ⟨w.heap.size + 1, 0, none⟩ (.int .i64 x.1)).setCell ⟨w.heap.size + 1, 1, none⟩ (.int .i64 x.2)).heap[w.heap.size]? = some (.cells #[.int .i64 0, .int .i64 0] 63 (0, 0)) := by
          rw [heap_setCell_ne2 (by show w.heap.size ≠ w.heap.size + 1; omega), heap_setCell_ne2 (by show w.heap.size ≠ w.heap.size + 1; omega)]; exact hb1'
        have s5 : ((w9.setCell ⟨w.heap.size + 1, 0, none⟩ (.int .i64 x.1)).setCell ⟨w.heap.size + 1, 1, none⟩ (.int .i64 x.2)).heap.size = w9.heap.size := by simp [World.setCell]
        have sz9 := hw9.size
        obtain ⟨w5, hw5⟩ : ∃ w5, (w9.setCell ⟨w.heap.size + 1, 0, none⟩ (.int .i64 x.1)).setCell ⟨w.heap.size + 1, 1, none⟩ (.int .i64 x.2) = w5 := ⟨_, rfl⟩
        rw [hw5] at b15 hx5 b25 s5
        have sz6 : w.heap.size + 2 ≤ w5.heap.size := by omega
        have HW5 := hid hw5
        have HB15 := hid b15
        have HB25 := hid b25
        clear hw5 b15 b25 s5 hb1' hb2' FX KC HB1r HB2r
        go_upto_region 6 with fail
        try rw [HW5.out]
        clear HW5 c0 c1 cf g0 g1
        go_wp2
        go_roundw
        case rel => exact ⟨j + 1, hj1, by go_num, hx5, sz6, HB25.out, by rw [HN.out]; exact HB15.out⟩
        case measure => simp [intOf]; omega
      · have HN : Hid (minR a (t.take (j + 1)) = G) := by unfold Hid; rw [HNX.out, hab]; simp [hD0]
        clear hab HNX
        go_wp2
        refine wp_region_shut Ext (fun w' => Ext wr w') (fun
          | 6 => some (fun v _ => v = .int .i64 DV)
          | _ => none) (by kernel_rfl) (by kernel_rfl) (fun _ _ h k => h.trans k) ?hTrb (Ext.drew (Ext.refl wr)) ?_
        case hTrb =>
          intro i R hR
          match i, hR with
          | 6, hR => cases hR; exact fun _ _ _ h _ => h
        refine wM_val ?urb0 rfl rfl Ext.refl (fun w' hD => ?hrb0) (fun phrb0 => ?nrb0)
        case hrb0 =>
          obtain ⟨⟨d0, d1⟩, e0, e1⟩ := FX.out w' hD.1
          go_simp; rfl
        simp only [Act.put, List.setIfInBounds_toArray, List.set_cons_succ, List.set_cons_zero, Nat.reduceAdd]
        refine wM_val ?urb1 rfl rfl Ext.refl (fun w' hD => ?hrb1) (fun phrb1 => ?nrb1)
        case hrb1 =>
          obtain ⟨⟨d0, d1⟩, e0, e1⟩ := FX.out w' hD.1
          go_simp; rfl
        simp only [Act.put, List.setIfInBounds_toArray, List.set_cons_succ, List.set_cons_zero, Nat.reduceAdd]
        refine wM_val ?urb2 rfl rfl Ext.refl (fun w' hD => ?hrb2) (fun phrb2 => ?nrb2)
        case hrb2 =>
          obtain ⟨⟨d0, d1⟩, e0, e1⟩ := FX.out w' hD.1
          go_simp; rfl
        simp only [Act.put, List.setIfInBounds_toArray, List.set_cons_succ, List.set_cons_zero, Nat.reduceAdd]
        refine wM_val ?urb3 rfl rfl Ext.refl (fun w' hD => ?hrb3) (fun phrb3 => ?nrb3)
        case hrb3 =>
          obtain ⟨⟨d0, d1⟩, e0, e1⟩ := FX.out w' hD.1
          go_simp; rfl
        simp only [Act.put, List.setIfInBounds_toArray, List.set_cons_succ, List.set_cons_zero, Nat.reduceAdd]
        refine wM_val ?urb4 rfl rfl Ext.refl (fun w' hD => ?hrb4) (fun phrb4 => ?nrb4)
        case hrb4 =>
          obtain ⟨⟨d0, d1⟩, e0, e1⟩ := FX.out w' hD.1
          go_simp; rfl
        simp only [Act.put, List.setIfInBounds_toArray, List.set_cons_succ, List.set_cons_zero, Nat.reduceAdd]
        refine wM_val ?urb5 rfl rfl Ext.refl (fun w' hD => ?hrb5) (fun phrb5 => ?nrb5)
        case hrb5 =>
          obtain ⟨⟨d0, d1⟩, e0, e1⟩ := FX.out w' hD.1
          go_simp; rfl
        simp only [Act.put, List.setIfInBounds_toArray, List.set_cons_succ, List.set_cons_zero, Nat.reduceAdd]
        refine wM_op _ rfl rfl (opens_call ?frb6 ?grb6 (fun w' hD => ?hrb6) (fun w' hD => ?crb6)) (fun v6 hv6 => ?nrb6)
        case hrb6 => go_simp; constructor <;> rfl
        case crb6 =>
          refine (KC.out w' hD.1).mono ?_
          rintro e w2 ⟨rfl, hb⟩
          exact ⟨_, rfl, hb, rfl⟩
        obtain ⟨_, -, -, rfl⟩ := hv6
        simp only [Act.put, List.setIfInBounds_toArray, List.set_cons_succ, List.set_cons_zero, Nat.reduceAdd]
        refine wM_val ?urb7 rfl rfl Ext.refl (fun w' hD => ?hrb7) (fun phrb7 => ?nrb7)
        case hrb7 =>
          obtain ⟨⟨d0, d1⟩, e0, e1⟩ := FX.out w' hD.1
          go_simp; rfl
        simp only [Act.put, List.setIfInBounds_toArray, List.set_cons_succ, List.set_cons_zero, Nat.reduceAdd]
        refine wM_nil ?_
        intro w9 hw9 hF9
        clear hF9

        have hx9 := hx.trans hw9
        have hb2' := hid ((Below.block hw9 (w.heap.size + 1) (by omega)).trans HB2r.out)
        have hb1' := hid ((Below.block hw9 w.heap.size (by omega)).trans HB1r.out)
        have sz9 := hw9.size
        have sz6 : w.heap.size + 2 ≤ w9.heap.size := by omega
        clear FX KC HB1r HB2r
        go_wp2
        go_roundw
        case rel => exact ⟨j + 1, hj1, by go_num, hx9, sz6, hb1'.out, by rw [HN.out]; exact hb2'.out⟩
        case measure => simp [intOf]; omega
    · obtain rfl : j = t.length := by omega
      rw [List.take_length] at hG
      have hltI : ¬ ((t.length + 1 : Nat) : Int) < ((t.length + 1 : Nat) : Int) := by omega
      obtain ⟨c0, c1, -⟩ := rat_cells hb2
      obtain ⟨d0, d1, df⟩ := rat_cells hb1
      have b9 := rat_put hb1 (.int .i64 G.1) (.int .i64 G.2)
      have hx9 := Ext.setCell (Ext.setCell hx (p := ⟨w.heap.size, 0, none⟩) (Nat.le_refl _) (.int .i64 G.1)) (p := ⟨w.heap.size, 1, none⟩) (Nat.le_refl _) (.int .i64 G.2)
      obtain ⟨w9, hw9⟩ : ∃ w9, (wr.setCell ⟨w.heap.size, 0, none⟩ (.int .i64 G.1)).setCell ⟨w.heap.size, 1, none⟩ (.int .i64 G.2) = w9 := ⟨_, rfl⟩
      rw [hw9] at b9 hx9
      obtain ⟨k0, k1, -⟩ := rat_cells b9
      have HW9 := hid hw9
      have HG := hid hG
      clear hw9 b9 hG hb1 hb2
      go_wp2
      try rw [HW9.out]
      refine bodyPost_ret (v := rval G) ?_ rfl ⟨by rw [HG.out], hx9⟩
      simp [results, Tryz.results87, go_sem, rval, k0, k1]
end Go.Proofs.YtjnobdcbbboeeaaGreat

namespace Go.Proofs.YtjnobdcbbboeeaaGreat
open Go Go.RowKit Go.Shelf
set_option linter.unusedVariables false
set_option linter.unusedSimpArgs false

theorem own_cap2 {w : World} {base e size n c : Nat} {A : Option Addr} {xs : List Value} (h : w.ownsRow base e size (.slice A n c) n xs) : n ≤ c := by
  rcases h.2 with ⟨h1, h2⟩ | ⟨g, cap, cur, h1, _, _, h2, _⟩
  · omega
  · injection h1 with _ _ h1; omega
theorem rat_put2 {w0 w : World} {B C : Nat} {u0 u1 v0 v1 : Value} {T : TypeId} (hB : w.heap[B]? = some (.cells #[u0, u1] T (0, 0))) (hC : w.heap[C]? = some (.cells #[v0, v1] T (0, 0))) (hne : B ≠ C) (hx : Ext w0 w) (hb : w0.heap.size ≤ B) (hc : w0.heap.size ≤ C) (x0 x1 y0 y1 : Value) :
    ((((w.setCell ⟨B, 0, none⟩ x0).setCell ⟨B, 1, none⟩ x1).setCell ⟨C, 0, none⟩ y0).setCell ⟨C, 1, none⟩ y1).heap[B]? = some (.cells #[x0, x1] T (0, 0)) ∧
    ((((w.setCell ⟨B, 0, none⟩ x0).setCell ⟨B, 1, none⟩ x1).setCell ⟨C, 0, none⟩ y0).setCell ⟨C, 1, none⟩ y1).heap[C]? = some (.cells #[y0, y1] T (0, 0)) ∧
    Ext w0 ((((w.setCell ⟨B, 0, none⟩ x0).setCell ⟨B, 1, none⟩ x1).setCell ⟨C, 0, none⟩ y0).setCell ⟨C, 1, none⟩ y1) := by
  have hB1 := rat_put hB x0 x1
  have hC1 : ((w.setCell ⟨B, 0, none⟩ x0).setCell ⟨B, 1, none⟩ x1).heap[C]? = some (.cells #[v0, v1] T (0, 0)) := by
    rw [heap_setCell_ne2 (by show C ≠ B; omega), heap_setCell_ne2 (by show C ≠ B; omega)]; exact hC
  refine ⟨?_, rat_put hC1 y0 y1, Ext.setCell (Ext.setCell (Ext.setCell (Ext.setCell hx (p := ⟨B, 0, none⟩) hb _) (p := ⟨B, 1, none⟩) hb _) (p := ⟨C, 0, none⟩) hc _) (p := ⟨C, 1, none⟩) hc _⟩
  rw [heap_setCell_ne2 (by show B ≠ C; exact hne), heap_setCell_ne2 (by show B ≠ C; exact hne)]; exact hB1
set_option maxRecDepth 100000 in
set_option maxHeartbeats 8000000 in
theorem bounds_any (v : Value) (h : Hs) (m : Int) (w : World) (hr : HsR w v h) (hs : h.sized) :
    Calls Tryz.prog 60 #[v, .int .i64 m] w fun e w' => e = .returned (.tuple #[rval (bndL h m), rval (bndU h m), .int .i64 (bndE h m)]) ∧ Ext w w' := by
  obtain ⟨A, c, rfl, hrw, hcap⟩ := hr
  obtain ⟨T, hT⟩ : ∃ T, checkH h = T := ⟨_, rfl⟩
  obtain ⟨w1, hw1⟩ : ∃ w1, w.alloc (.cells #[.int .i64 h.mo, .int .i64 h.pk, .slice A h.ws.length c] 25) = w1 := ⟨_, rfl⟩
  obtain ⟨w2, hw2⟩ : ∃ w2, w1.alloc (.cells #[.int .i64 0, .int .i64 0] 63) = w2 := ⟨_, rfl⟩
  obtain ⟨w3, hw3⟩ : ∃ w3, w2.alloc (.cells #[.int .i64 0, .int .i64 0] 63) = w3 := ⟨_, rfl⟩
  have hx1 : Ext w w1 := by rw [← hw1]; exact Ext.alloc (Ext.refl w) _
  have hx12 : Ext w1 w2 := by rw [← hw2]; exact Ext.alloc (Ext.refl w1) _
  have hx23 : Ext w2 w3 := by rw [← hw3]; exact Ext.alloc (Ext.refl w2) _
  have s1 : w1.heap.size = w.heap.size + 1 := by rw [← hw1]; simp
  have s2 : w2.heap.size = w.heap.size + 1 + 1 := by rw [← hw2]; simp [s1]
  have s3 : w3.heap.size = w.heap.size + 1 + 1 + 1 := by rw [← hw3]; simp [s2]
  have b1 : w3.heap[w.heap.size]? = some (.cells #[.int .i64 h.mo, .int .i64 h.pk, .slice A h.ws.length c] 25 (0, 0)) := (Below.block (hx12.trans hx23) w.heap.size (by omega)).trans (by rw [← hw1]; exact heap_alloc_new w _)
  have b4 : w3.heap[w.heap.size + 1]? = some (.cells #[.int .i64 0, .int .i64 0] 63 (0, 0)) := (Below.block hx23 (w.heap.size + 1) (by omega)).trans (by rw [← hw2, ← s1]; exact heap_alloc_new w1 _)
  have b5 : w3.heap[w.heap.size + 1 + 1]? = some (.cells #[.int .i64 0, .int .i64 0] 63 (0, 0)) := by rw [← hw3, ← s2]; exact heap_alloc_new w2 _
  have hx3 := hx1.trans (hx12.trans hx23)
  have FH : Hid (∀ w', Ext w3 w' → w'.cell? ⟨w.heap.size, 0, none⟩ = some (.int .i64 h.mo) ∧ w'.cell? ⟨w.heap.size, 1, none⟩ = some (.int .i64 h.pk) ∧ w'.cell? ⟨w.heap.size, 2, none⟩ = some (.slice A h.ws.length c)) := fun w' hx =>
    ⟨hx.cell (by rw [cell_of_row w3 w.heap.size 0 _ _ _ b1]; rfl), hx.cell (by rw [cell_of_row w3 w.heap.size 1 _ _ _ b1]; rfl), hx.cell (by rw [cell_of_row w3 w.heap.size 2 _ _ _ b1]; rfl)⟩
  have F4 : Hid (∀ w', Ext w3 w' → w'.heap[w.heap.size + 1]? = some (.cells #[.int .i64 0, .int .i64 0] 63 (0, 0))) := fun w' hx => (Below.block hx _ (by omega)).trans b4
  have F5 : Hid (∀ w', Ext w3 w' → w'.heap[w.heap.size + 1 + 1]? = some (.cells #[.int .i64 0, .int .i64 0] 63 (0, 0))) := fun w' hx => (Below.block hx _ (by omega)).trans b5
  have HRW : Hid (∀ w', Ext w3 w' → Wgs w' A h.ws) := fun w' hx => Rows.ext hrw (hx3.trans hx)
  have KC := opened_any (hval h A c) h w3 ⟨A, c, rfl, HRW.out w3 (Ext.refl _), hcap⟩ hs
  unfold hval OpenPost at KC
  rw [hT] at KC
  have KC := hid KC
  have HT := hid hT
  have HW1 := hid hw1
  have HW2 := hid hw2
  have HW3 := hid hw3
  have HS1 := hid s1
  have HS2 := hid s2
  clear hw1 hw2 hw3 hT hrw b1 b4 b5 hs hx12 hx23 s1 s2 s3 hx1
  unfold hval
  go_enter Tryz.func60, Tryz.ntmps60
  go_upto_region 1 with fail
  rw [HW1.out, HW2.out, HW3.out]
  try rw [HS1.out]
  try rw [HS2.out]
  try rw [HS1.out]
  clear HW1 HW2 HW3
  obtain ⟨c0, c1, c2⟩ := FH.out w3 (Ext.refl _)
  go_wp2_with fail
  refine KC.out.mono ?_
  clear KC c0 c1 c2
  rintro e w4 ⟨r, rfl, h4, hdk, hnil⟩
  by_cases h0 : T = 0
  case neg =>
    have h0b : (T != 0) = true := by simpa using h0
    obtain rfl := hnil h0
    clear hnil hdk
    have HE : Hid (bndE h m = T) := by unfold Hid bndE; rw [HT.out, if_pos h0]
    have HL : Hid (bndL h m = (0, 0)) := by unfold Hid bndL; rw [HE.out, if_neg h0]
    have HU : Hid (bndU h m = (0, 0)) := by unfold Hid bndU; rw [HE.out, if_neg h0]
    have hb4 := F4.out w4 h4
    have hb5 := F5.out w4 h4
    obtain ⟨c0, c1, cf⟩ := rat_cells hb4
    obtain ⟨d0, d1, df⟩ := rat_cells hb5
    obtain ⟨p1, p2, p3⟩ := rat_put2 hb4 hb5 (by omega) (hx3.trans h4) (Nat.le_succ _) (by omega) (.int .i64 0) (.int .i64 0) (.int .i64 0) (.int .i64 0)
    obtain ⟨W9, hW9⟩ : ∃ W9, ((((w4.setCell ⟨w.heap.size + 1, 0, none⟩ (.int .i64 0)).setCell ⟨w.heap.size + 1, 1, none⟩ (.int .i64 0)).setCell ⟨w.heap.size + 1 + 1, 0, none⟩ (.int .i64 0)).setCell ⟨w.heap.size + 1 + 1, 1, none⟩ (.int .i64 0)).drew = W9 := ⟨_, rfl⟩
    have q1 : W9.heap[w.heap.size + 1]? = some (.cells #[.int .i64 0, .int .i64 0] 63 (0, 0)) := by rw [← hW9]; exact p1
    have q2 : W9.heap[w.heap.size + 1 + 1]? = some (.cells #[.int .i64 0, .int .i64 0] 63 (0, 0)) := by rw [← hW9]; exact p2
    have q3 : Ext w W9 := by rw [← hW9]; exact Ext.drew p3
    obtain ⟨k0, k1, -⟩ := rat_cells q1
    obtain ⟨l0, l1, -⟩ := rat_cells q2
    clear p1 p2 p3 q1 q2 hb4 hb5
    go_wp2
    go_region
    go_wp2
    try rw [hW9]
    refine bodyPost_ret (v := .tuple #[.agg #[.int .i64 0, .int .i64 0], .agg #[.int .i64 0, .int .i64 0], .int .i64 T]) ?_ rfl ⟨by rw [HE.out, HL.out, HU.out]; rfl, q3⟩
    simp [results, Tryz.results60, go_sem, k0, k1, l0, l1]
  subst h0
  have HOK : Hid (HsOK h) := checkH_ok HT.out
  have hmo := HOK.out.mo
  have hlen := HOK.out.len
  have hdk := hdk rfl
  clear hnil
  have hdk0 := hdk
  obtain ⟨D, A2, c3, rfl, -⟩ := hdk0
  have HDK := hid hdk
  clear hdk
  have KM := hid (month_any (hval h A c) h m w4 ⟨A, c, rfl, HRW.out w4 h4, hcap⟩ hmo)
  unfold hval at KM
  obtain ⟨c0, c1, c2⟩ := FH.out w4 h4
  go_wp2_with fail
  refine KM.out.mono ?_
  clear KM c0 c1 c2
  rintro e w5 ⟨rfl, h5'⟩
  have h5 := h4.trans h5'
  cases hM : moOK h m
  case false =>
    have HE : Hid (bndE h m = 1) := by unfold Hid bndE; rw [if_neg (fun x => x HT.out), if_pos hM]
    have HL : Hid (bndL h m = (0, 0)) := by unfold Hid bndL; rw [HE.out]; rfl
    have HU : Hid (bndU h m = (0, 0)) := by unfold Hid bndU; rw [HE.out]; rfl
    clear hM
    have hb4 := F4.out w5 h5
    have hb5 := F5.out w5 h5
    obtain ⟨c0, c1, cf⟩ := rat_cells hb4
    obtain ⟨d0, d1, df⟩ := rat_cells hb5
    obtain ⟨p1, p2, p3⟩ := rat_put2 hb4 hb5 (by omega) (hx3.trans h5) (Nat.le_succ _) (by omega) (.int .i64 0) (.int .i64 0) (.int .i64 0) (.int .i64 0)
    obtain ⟨W9, hW9⟩ : ∃ W9, ((((w5.setCell ⟨w.heap.size + 1, 0, none⟩ (.int .i64 0)).setCell ⟨w.heap.size + 1, 1, none⟩ (.int .i64 0)).setCell ⟨w.heap.size + 1 + 1, 0, none⟩ (.int .i64 0)).setCell ⟨w.heap.size + 1 + 1, 1, none⟩ (.int .i64 0)).drew = W9 := ⟨_, rfl⟩
    have q1 : W9.heap[w.heap.size + 1]? = some (.cells #[.int .i64 0, .int .i64 0] 63 (0, 0)) := by rw [← hW9]; exact p1
    have q2 : W9.heap[w.heap.size + 1 + 1]? = some (.cells #[.int .i64 0, .int .i64 0] 63 (0, 0)) := by rw [← hW9]; exact p2
    have q3 : Ext w W9 := by rw [← hW9]; exact Ext.drew p3
    obtain ⟨k0, k1, -⟩ := rat_cells q1
    obtain ⟨l0, l1, -⟩ := rat_cells q2
    clear p1 p2 p3 q1 q2 hb4 hb5
    go_wp2
    go_region
    go_wp2
    try rw [hW9]
    refine bodyPost_ret (v := .tuple #[.agg #[.int .i64 0, .int .i64 0], .agg #[.int .i64 0, .int .i64 0], .int .i64 1]) ?_ rfl ⟨by rw [HE.out, HL.out, HU.out]; rfl, q3⟩
    simp [results, Tryz.results60, go_sem, k0, k1, l0, l1]
  have HBE : Hid (bndE h m = if agrH h = false then 7 else if (lowsH h m).length = 0 ∨ (upsH h m).length = 0 then 6 else 0) := by unfold Hid bndE; rw [if_neg (fun x => x HT.out), hM]; rfl
  have KA := agree_any _ h w5 (HDK.out.ext h5') hlen
  obtain ⟨AG, hAG⟩ : ∃ AG, agrH h = AG := ⟨_, rfl⟩
  rw [hAG] at KA HBE
  have KA := hid KA
  have HAG := hid hAG
  clear hM hAG h5' HDK
  go_wp2_with fail
  refine KA.out.mono ?_
  clear KA
  rintro e w6 ⟨rfl, rfl⟩
  cases AG
  case false =>
    have HE : Hid (bndE h m = 7) := HBE.out
    have HL : Hid (bndL h m = (0, 0)) := by unfold Hid bndL; rw [HE.out]; rfl
    have HU : Hid (bndU h m = (0, 0)) := by unfold Hid bndU; rw [HE.out]; rfl
    have hb4 := F4.out w5 h5
    have hb5 := F5.out w5 h5
    obtain ⟨c0, c1, cf⟩ := rat_cells hb4
    obtain ⟨d0, d1, df⟩ := rat_cells hb5
    obtain ⟨p1, p2, p3⟩ := rat_put2 hb4 hb5 (by omega) (hx3.trans h5) (Nat.le_succ _) (by omega) (.int .i64 0) (.int .i64 0) (.int .i64 0) (.int .i64 0)
    obtain ⟨W9, hW9⟩ : ∃ W9, ((((w5.setCell ⟨w.heap.size + 1, 0, none⟩ (.int .i64 0)).setCell ⟨w.heap.size + 1, 1, none⟩ (.int .i64 0)).setCell ⟨w.heap.size + 1 + 1, 0, none⟩ (.int .i64 0)).setCell ⟨w.heap.size + 1 + 1, 1, none⟩ (.int .i64 0)).drew = W9 := ⟨_, rfl⟩
    have q1 : W9.heap[w.heap.size + 1]? = some (.cells #[.int .i64 0, .int .i64 0] 63 (0, 0)) := by rw [← hW9]; exact p1
    have q2 : W9.heap[w.heap.size + 1 + 1]? = some (.cells #[.int .i64 0, .int .i64 0] 63 (0, 0)) := by rw [← hW9]; exact p2
    have q3 : Ext w W9 := by rw [← hW9]; exact Ext.drew p3
    obtain ⟨k0, k1, -⟩ := rat_cells q1
    obtain ⟨l0, l1, -⟩ := rat_cells q2
    clear p1 p2 p3 q1 q2 hb4 hb5
    go_wp2
    go_region
    go_wp2
    try rw [hW9]
    refine bodyPost_ret (v := .tuple #[.agg #[.int .i64 0, .int .i64 0], .agg #[.int .i64 0, .int .i64 0], .int .i64 7]) ?_ rfl ⟨by rw [HE.out, HL.out, HU.out]; rfl, q3⟩
    simp [results, Tryz.results60, go_sem, k0, k1, l0, l1]
  have KL := hid (lowers_any (hval h A c) h m w5 ⟨A, c, rfl, HRW.out w5 h5, hcap⟩ hlen HOK.out.inn)
  unfold hval at KL
  obtain ⟨c0, c1, c2⟩ := FH.out w5 h5
  go_wp2_with fail
  refine KL.out.mono ?_
  clear KL c0 c1 c2
  rintro e w6 ⟨r, rfl, h6', Al, cl, rfl, hol⟩
  have h6 := h5.trans h6'
  have HOL := hid hol
  clear hol h6'
  have KU : Hid (∀ (a : Int) w', Ext w3 w' → Calls Tryz.prog 62 #[.agg #[.int .i64 h.mo, .int .i64 h.pk, .slice A h.ws.length c], .int .i64 m, .int .i64 a] w' fun e w2 => e = .returned (.bool (undH h m a)) ∧ Ext w' w2) := fun a w' hx => under_any _ h m a w' ⟨A, c, rfl, HRW.out w' hx, hcap⟩
  have HVU : Hid (upsH h m = takeR h.ws (fun x => undH h m x.mo) Wg.hi h.ws.length) := (takeR_all (Nat.le_refl _)).symm
  have HTL := hid (takeR_len h.ws (fun x => undH h m x.mo) Wg.hi)
  have HI := hid HOK.out.inn
  obtain ⟨c0, c1, c2⟩ := FH.out w6 h6
  go_wp2
  clear c0 c1 c2
  go_loopw [9, 42] (fun s9 i42 wr => ∃ (k n : Nat) (A' : Option Addr) (c' : Nat), k ≤ h.ws.length ∧ i42 = .int .i64 (k : Int) ∧ (takeR h.ws (fun x => undH h m x.mo) Wg.hi k).length = n ∧ s9 = .slice A' n c' ∧ wr.ownsRow w6.heap.size 63 2 (.slice A' n c') n (layPr.rows (takeR h.ws (fun x => undH h m x.mo) Wg.hi k)) ∧ Ext w6 wr) (fun _ i _ => h.ws.length - (intOf i).toNat)
  case atStart => exact ⟨0, 0, none, 0, Nat.zero_le _, rfl, rfl, rfl, own_nil _ _ _ _, Ext.refl _⟩
  case round =>
    obtain ⟨k, n, A', c', hk, rfl, hn, rfl, ho, hx6⟩ := hrel
    have hx := h6.trans hx6
    have hnk := HTL.out k
    rw [hn] at hnk
    by_cases hlt : k < h.ws.length
    · have hltI : (k : Int) < (h.ws.length : Int) := by omega
      have hk1 : k + 1 ≤ h.ws.length := hlt
      obtain ⟨x, hq⟩ := get_of_lt h.ws k hlt
      have hxi := HI.out x (mem_of_get hq)
      have hnx := takeR_next (P := fun x => undH h m x.mo) (f := Wg.hi) hq
      obtain ⟨bA, oA, eA, g0, g1, g2, g3, g4⟩ := Wgs.at_ (HRW.out wr hx) hq
      obtain ⟨R, hR⟩ : ∃ R, x.hi = R := ⟨_, rfl⟩
      have KLo := most_any x
      rw [hR] at KLo
      have KL : Hid (∀ w', Calls Tryz.prog 35 #[.agg #[.int .i64 x.mo, .int .i64 x.sl, .int .i64 x.sh, .int .i64 x.ml, .int .i64 x.mh]] w' fun e w2 => e = .returned (.agg #[.int .i64 R.1, .int .i64 R.2]) ∧ Ext w' w2) := fun w' => KLo w' hxi
      obtain ⟨W1, hW1⟩ : ∃ W1, wr.alloc (.cells #[.int .i64 x.mo, .int .i64 x.sl, .int .i64 x.sh, .int .i64 x.ml, .int .i64 x.mh] 67) = W1 := ⟨_, rfl⟩
      have hxa : Ext wr W1 := by rw [← hW1]; exact Ext.alloc (Ext.refl _) _
      have bV : W1.heap[wr.heap.size]? = some (.cells #[.int .i64 x.mo, .int .i64 x.sl, .int .i64 x.sh, .int .i64 x.ml, .int .i64 x.mh] 67 (0, 0)) := by rw [← hW1]; exact heap_alloc_new wr _
      have FV : Hid (∀ w', Ext W1 w' → w'.cell? ⟨wr.heap.size, 0, none⟩ = some (.int .i64 x.mo) ∧ w'.cell? ⟨wr.heap.size, 1, none⟩ = some (.int .i64 x.sl) ∧ w'.cell? ⟨wr.heap.size, 2, none⟩ = some (.int .i64 x.sh) ∧ w'.cell? ⟨wr.heap.size, 3, none⟩ = some (.int .i64 x.ml) ∧ w'.cell? ⟨wr.heap.size, 4, none⟩ = some (.int .i64 x.mh)) := fun w' q =>
        ⟨q.cell (by rw [cell_of_row W1 wr.heap.size 0 _ _ _ bV]; rfl), q.cell (by rw [cell_of_row W1 wr.heap.size 1 _ _ _ bV]; rfl), q.cell (by rw [cell_of_row W1 wr.heap.size 2 _ _ _ bV]; rfl), q.cell (by rw [cell_of_row W1 wr.heap.size 3 _ _ _ bV]; rfl), q.cell (by rw [cell_of_row W1 wr.heap.size 4 _ _ _ bV]; rfl)⟩
      have HW1 := hid hW1
      have HNX := hid hnx
      have HR := hid hR
      have HN := hid hn
      have HO := hid ho
      have hx1a := hx.trans hxa
      have HEA := hid eA
      rw [eA]
      clear hW1 bV hq eA hnx hR hn ho KLo
      obtain ⟨c0, c1, c2⟩ := FH.out wr hx
      go_upto_region 13 with fail
      rw [HW1.out]
      clear HW1 g0 g1 g2 g3 g4 c0 c1 c2
      obtain ⟨c0, c1, c2⟩ := FH.out W1 hx1a
      rw [HEA.out] at c2
      obtain ⟨d0, d1, d2, d3, d4⟩ := FV.out W1 (Ext.refl _)
      have KU2 := KU.out x.mo W1 hx1a
      rw [HEA.out] at KU2
      have HK2 := hid KU2
      clear KU2
      go_wp2_with fail
      refine HK2.out.mono ?_
      clear c0 c1 c2 d0 d1 d2 d3 d4 HK2
      rintro e w7 ⟨rfl, h7⟩
      have hx7 := (hx6.trans hxa).trans h7
      cases hU : undH h m x.mo
      case false =>
        have HNE : Hid (takeR h.ws (fun x => undH h m x.mo) Wg.hi (k + 1) = takeR h.ws (fun x => undH h m x.mo) Wg.hi k) := by unfold Hid; rw [HNX.out]; simp [hU]
        have HO2 := hid (own_below HO.out (hxa.trans h7))
        clear hU HNX HO
        go_wp2
        go_roundw
        case rel => exact ⟨k + 1, n, A', c', hk1, by go_num, by rw [HNE.out, HN.out], rfl, by rw [HNE.out]; exact HO2.out, hx7⟩
        case measure => simp [intOf]; omega
      case true =>
        have HNE : Hid (takeR h.ws (fun x => undH h m x.mo) Wg.hi (k + 1) = takeR h.ws (fun x => undH h m x.mo) Wg.hi k ++ [R]) := by unfold Hid; rw [HNX.out]; simp [hU, HR.out]
        clear hU HNX
        obtain ⟨d0, d1, d2, d3, d4⟩ := FV.out w7 h7
        go_wp2_with fail
        refine (KL.out w7).mono ?_
        clear d0 d1 d2 d3 d4 KL
        rintro e w8 ⟨rfl, h8⟩
        obtain ⟨W5, hW5⟩ : ∃ W5, w8.alloc (.cells #[.int .i64 R.1, .int .i64 R.2] 63) = W5 := ⟨_, rfl⟩
        have hx5 : Ext w8 W5 := by rw [← hW5]; exact Ext.alloc (Ext.refl _) _
        have HRD : Hid (Rd W5 (some ⟨w8.heap.size, 0, none⟩) [.int .i64 R.1, .int .i64 R.2]) := by unfold Hid; rw [← hW5]; exact rd_blk2 (heap_alloc_new w8 _)
        have HO5 := hid (own_below HO.out (((hxa.trans h7).trans h8).trans hx5))
        have hx15 := (hx7.trans h8).trans hx5
        have sz5 : w6.heap.size ≤ W5.heap.size := hx15.size
        clear HO
        go_wp2_with (at_builtin; (try rw [hW5]); refine wpList_append_rd2 _ rfl _ _ 26 rfl elem_rat w6.heap.size _ n (layPr.rows (takeR h.ws (fun x => undH h m x.mo) Wg.hi k)) rfl HO5.out (some ⟨w8.heap.size, 0, none⟩) 1 1 [.int .i64 R.1, .int .i64 R.2] rfl rfl HRD.out (by intro u hu; simp at hu; rcases hu with rfl | rfl <;> rfl) (by omega) sz5 ?_)
        intro A6 c6 W6 own6 hbel6 hgr6 hloc6
        have hxn : Ext w6 W6 := Ext.grown hx15 hgr6 (fun g e => (HO5.out.lt g e).1)
        have hown : W6.ownsRow w6.heap.size 63 2 (.slice A6 (n + 1) c6) (n + 1) (layPr.rows (takeR h.ws (fun x => undH h m x.mo) Wg.hi (k + 1))) := by
          rw [HNE.out, layPr.rows_app, layPr.rows_single]; exact own6
        have HO6 := hid hown
        have hn1 : (takeR h.ws (fun x => undH h m x.mo) Wg.hi (k + 1)).length = n + 1 := by rw [HNE.out, List.length_append, HN.out]; rfl
        have HN1 := hid hn1
        clear own6 hbel6 hgr6 hloc6 HO5 HRD hW5 hx5 hown hn1
        go_wp2
        go_roundw
        case rel => exact ⟨k + 1, n + 1, A6, c6, hk1, by go_num, HN1.out, rfl, HO6.out, hxn⟩
        case measure => simp [intOf]; omega
    · obtain rfl : k = h.ws.length := by omega
      have HO := hid ho
      have HOL2 := hid (own_below HOL.out hx6)
      have HNU : Hid ((upsH h m).length = n) := by unfold Hid; rw [HVU.out]; exact hn
      have HOU : Hid (wr.ownsRow w6.heap.size 63 2 (.slice A' n c') n (layPr.rows (upsH h m))) := by unfold Hid; rw [HVU.out]; exact ho
      clear ho hn HO HOL
      have hLl : (lowsH h m).length ≤ 14 := by unfold lowsH; rw [List.length_map]; have := List.length_filter_le (fun w => undH h w.mo m) h.ws; omega
      have hUl : (upsH h m).length ≤ 14 := by unfold upsH; rw [List.length_map]; have := List.length_filter_le (fun w => undH h m w.mo) h.ws; omega
      have hLs : ∀ q ∈ lowsH h m, Rsm q := fun q hq => by
        obtain ⟨x, hx, -, rfl⟩ := low_mem.1 hq
        have := HOK.out.ms x hx
        exact low_small (by omega) (by omega)
      have hUs : ∀ q ∈ upsH h m, Rsm q := fun q hq => by
        obtain ⟨x, hx, -, rfl⟩ := up_mem.1 hq
        have := HOK.out.ms x hx
        exact low_small (by omega) (by omega)
      have hltI : ¬ (h.ws.length : Int) < (h.ws.length : Int) := by omega
      cases hL : lowsH h m with
      | nil =>
        have HE : Hid (bndE h m = 6) := by unfold Hid; rw [HBE.out, hL]; simp
        have HL : Hid (bndL h m = (0, 0)) := by unfold Hid bndL; rw [HE.out]; rfl
        have HU : Hid (bndU h m = (0, 0)) := by unfold Hid bndU; rw [HE.out]; rfl
        have e0 : ([] : List Rt).length = 0 := rfl
        rw [e0]
        clear hL HOL2 HOU HNU HVU HBE e0
        have hb4 := F4.out wr hx
        have hb5 := F5.out wr hx
        obtain ⟨c0, c1, cf⟩ := rat_cells hb4
        obtain ⟨d0, d1, df⟩ := rat_cells hb5
        obtain ⟨p1, p2, p3⟩ := rat_put2 hb4 hb5 (by omega) (hx3.trans hx) (Nat.le_succ _) (by omega) (.int .i64 0) (.int .i64 0) (.int .i64 0) (.int .i64 0)
        obtain ⟨W9, hW9⟩ : ∃ W9, ((((wr.setCell ⟨w.heap.size + 1, 0, none⟩ (.int .i64 0)).setCell ⟨w.heap.size + 1, 1, none⟩ (.int .i64 0)).setCell ⟨w.heap.size + 1 + 1, 0, none⟩ (.int .i64 0)).setCell ⟨w.heap.size + 1 + 1, 1, none⟩ (.int .i64 0)).drew = W9 := ⟨_, rfl⟩
        have q1 : W9.heap[w.heap.size + 1]? = some (.cells #[.int .i64 0, .int .i64 0] 63 (0, 0)) := by rw [← hW9]; exact p1
        have q2 : W9.heap[w.heap.size + 1 + 1]? = some (.cells #[.int .i64 0, .int .i64 0] 63 (0, 0)) := by rw [← hW9]; exact p2
        have q3 : Ext w W9 := by rw [← hW9]; exact Ext.drew p3
        obtain ⟨k0, k1, -⟩ := rat_cells q1
        obtain ⟨l0, l1, -⟩ := rat_cells q2
        clear p1 p2 p3 q1 q2 hb4 hb5
        go_wp2
        go_region
        go_wp2
        try rw [hW9]
        refine bodyPost_ret (v := .tuple #[.agg #[.int .i64 0, .int .i64 0], .agg #[.int .i64 0, .int .i64 0], .int .i64 6]) ?_ rfl ⟨by rw [HE.out, HL.out, HU.out]; rfl, q3⟩
        simp [results, Tryz.results60, go_sem, k0, k1, l0, l1]
      | cons a t =>
        cases hU : upsH h m with
        | nil =>
          have HE : Hid (bndE h m = 6) := by unfold Hid; rw [HBE.out, hU]; simp
          have HL : Hid (bndL h m = (0, 0)) := by unfold Hid bndL; rw [HE.out]; rfl
          have HU : Hid (bndU h m = (0, 0)) := by unfold Hid bndU; rw [HE.out]; rfl
          have hn0 : n = 0 := by rw [← HNU.out, hU]; rfl
          subst hn0
          have e0 : (a :: t).length = t.length + 1 := rfl
          have f1 : ((t.length + 1 : Nat) : Int) ≠ 0 := by omega
          have f2 : ¬ (t.length : Int) + 1 = 0 := by omega
          have f4 : ((t.length : Int) + 1 == 0) = false := by simp; omega
          have f6 : (((t.length + 1 : Nat) : Int) == 0) = false := by simp; omega
          rw [e0]
          clear hL hU HOL2 HOU HNU HVU HBE e0
          have hb4 := F4.out wr hx
          have hb5 := F5.out wr hx
          obtain ⟨c0, c1, cf⟩ := rat_cells hb4
          obtain ⟨d0, d1, df⟩ := rat_cells hb5
          obtain ⟨p1, p2, p3⟩ := rat_put2 hb4 hb5 (by omega) (hx3.trans hx) (Nat.le_succ _) (by omega) (.int .i64 0) (.int .i64 0) (.int .i64 0) (.int .i64 0)
          obtain ⟨W9, hW9⟩ : ∃ W9, ((((wr.setCell ⟨w.heap.size + 1, 0, none⟩ (.int .i64 0)).setCell ⟨w.heap.size + 1, 1, none⟩ (.int .i64 0)).setCell ⟨w.heap.size + 1 + 1, 0, none⟩ (.int .i64 0)).setCell ⟨w.heap.size + 1 + 1, 1, none⟩ (.int .i64 0)).drew = W9 := ⟨_, rfl⟩
          have q1 : W9.heap[w.heap.size + 1]? = some (.cells #[.int .i64 0, .int .i64 0] 63 (0, 0)) := by rw [← hW9]; exact p1
          have q2 : W9.heap[w.heap.size + 1 + 1]? = some (.cells #[.int .i64 0, .int .i64 0] 63 (0, 0)) := by rw [← hW9]; exact p2
          have q3 : Ext w W9 := by rw [← hW9]; exact Ext.drew p3
          obtain ⟨k0, k1, -⟩ := rat_cells q1
          obtain ⟨l0, l1, -⟩ := rat_cells q2
          clear p1 p2 p3 q1 q2 hb4 hb5
          go_wp2
          go_region
          go_wp2
          try rw [hW9]
          refine bodyPost_ret (v := .tuple #[.agg #[.int .i64 0, .int .i64 0], .agg #[.int .i64 0, .int .i64 0], .int .i64 6]) ?_ rfl ⟨by rw [HE.out, HL.out, HU.out]; rfl, q3⟩
          simp [results, Tryz.results60, go_sem, k0, k1, l0, l1]
        | cons b u =>
          have HE : Hid (bndE h m = 0) := by unfold Hid; rw [HBE.out, hL, hU]; simp
          have HL : Hid (bndL h m = greatL a t) := by unfold Hid bndL; rw [HE.out, hL]; rfl
          have HU : Hid (bndU h m = minR b u) := by unfold Hid bndU; rw [HE.out, hU]; rfl
          have hn0 : n = u.length + 1 := by rw [← HNU.out, hU]; rfl
          subst hn0
          rw [hL] at hLl hLs HOL2
          rw [hU] at hUl hUs HOU
          have e0 : (a :: t).length = t.length + 1 := rfl
          rw [e0] at HOL2 hLl ⊢
          rw [show (b :: u).length = u.length + 1 from rfl] at hUl
          have f2 : ¬ (t.length : Int) + 1 = 0 := by omega
          have f3 : ¬ (u.length : Int) + 1 = 0 := by omega
          have f4 : ((t.length : Int) + 1 == 0) = false := by simp; omega
          have f5 : ((u.length : Int) + 1 == 0) = false := by simp; omega
          have f6 : (((t.length + 1 : Nat) : Int) == 0) = false := by simp; omega
          have f7 : (((u.length + 1 : Nat) : Int) == 0) = false := by simp; omega
          have KM := minf_any A' c' b u wr (Rd.of_own HOU.out) (by omega) hUs
          obtain ⟨MU, hMU⟩ : ∃ MU, minR b u = MU := ⟨_, rfl⟩
          obtain ⟨ML, hML⟩ : ∃ ML, greatL a t = ML := ⟨_, rfl⟩
          rw [hMU] at KM HU
          rw [hML] at HL
          have HML := hid hML
          unfold rval at KM
          have KM := hid KM
          clear hL hU HNU HVU HBE e0 hMU hML
          go_wp2_with fail
          refine KM.out.mono ?_
          clear KM
          rintro e w7 ⟨rfl, h7⟩
          have hx7 := hx.trans h7
          have hb4 := F4.out w7 hx7
          have hb5 := F5.out w7 hx7
          obtain ⟨d0, d1, df⟩ := rat_cells hb5
          have hb5' := rat_put hb5 (.int .i64 MU.1) (.int .i64 MU.2)
          have hxs := Ext.setCell (Ext.setCell (hx3.trans hx7) (p := ⟨w.heap.size + 1 + 1, 0, none⟩) (by show w.heap.size ≤ w.heap.size + 1 + 1; omega) (.int .i64 MU.1)) (p := ⟨w.heap.size + 1 + 1, 1, none⟩) (by show w.heap.size ≤ w.heap.size + 1 + 1; omega) (.int .i64 MU.2)
          have hb4' : ((w7.setCell ⟨w.heap.size + 1 + 1, 0, none⟩ (.int .i64 MU.1)).setCell ⟨w.heap.size + 1 + 1, 1, none⟩ (.int .i64 MU.2)).heap[w.heap.size + 1]? = some (.cells #[.int .i64 0, .int .i64 0] 63 (0, 0)) := by
            rw [heap_setCell_ne2 (by show w.heap.size + 1 ≠ w.heap.size + 1 + 1; omega), heap_setCell_ne2 (by show w.heap.size + 1 ≠ w.heap.size + 1 + 1; omega)]; exact hb4
          have hol : ((w7.setCell ⟨w.heap.size + 1 + 1, 0, none⟩ (.int .i64 MU.1)).setCell ⟨w.heap.size + 1 + 1, 1, none⟩ (.int .i64 MU.2)).ownsRow w5.heap.size 63 2 (.slice Al (t.length + 1) cl) (t.length + 1) (layPr.rows (a :: t)) := by
            have hb : BelS (fun k => k = w.heap.size + 1 + 1) w7 ((w7.setCell ⟨w.heap.size + 1 + 1, 0, none⟩ (.int .i64 MU.1)).setCell ⟨w.heap.size + 1 + 1, 1, none⟩ (.int .i64 MU.2)) := BelS.setCell (S := fun k => k = w.heap.size + 1 + 1) (BelS.setCell (S := fun k => k = w.heap.size + 1 + 1) (BelS.refl _ w7) _ _ rfl) _ _ rfl
            refine hb.own (own_below HOL2.out h7) (fun g hg e => ?_)
            have h1 := (HOL2.out.lt g hg).1
            have h2 := h5.size
            have h3 := (Array.getElem?_eq_some_iff.1 (F5.out w3 (Ext.refl _))).1
            omega
          obtain ⟨w8, hw8⟩ : ∃ w8, (w7.setCell ⟨w.heap.size + 1 + 1, 0, none⟩ (.int .i64 MU.1)).setCell ⟨w.heap.size + 1 + 1, 1, none⟩ (.int .i64 MU.2) = w8 := ⟨_, rfl⟩
          rw [hw8] at hb5' hxs hb4' hol
          obtain ⟨g, hg⟩ := own_at hol (by rintro rfl; rcases hol.2 with ⟨h1, h2⟩ | ⟨g, cap, cur, h1, -⟩ <;> first | omega | cases h1)
          subst hg
          have hcap1 := own_cap2 hol
          have HOL8 := hid hol
          have HB4 := hid hb4'
          have HB5 := hid hb5'
          have HW8 := hid hw8
          have KG : Hid (∀ X q w', Ext w8 w' → (t.length = 0 ∨ X = some ⟨g, 2, none⟩) → Calls Tryz.prog 51 #[.agg #[.int .i64 a.1, .int .i64 a.2], .slice X t.length q] w' fun e w2 => e = .returned (.agg #[.int .i64 ML.1, .int .i64 ML.2]) ∧ Ext w' w2) := fun X q w' hx hX => by
            rw [← HML.out]
            refine greatest_any a X q t w' (hLs a List.mem_cons_self) ?_ (by omega) (fun y hy => hLs y (List.mem_cons_of_mem _ hy))
            have hr : Prs w' (some ⟨g, 0, none⟩) (a :: t) := Rd.of_own (own_below HOL8.out hx)
            rcases hX with h0 | rfl
            · rw [List.length_eq_zero_iff.1 h0]; exact Rd.nil _ _
            · rcases hr with h1 | ⟨b', off', e1, h1⟩
              · exact absurd h1 (by simp [Lay.rows, layPr])
              · cases e1
                refine .inr ⟨g, 2, rfl, fun j y hy => ?_⟩
                have := h1 (j + 2) y (by simpa [Lay.rows, layPr] using hy)
                rw [Nat.zero_add] at this
                rw [Nat.add_comm 2 j]; exact this
          clear hw8 hol hb4' hb5' hb4 hb5
          go_upto_region 19 with fail
          try rw [HW8.out]
          clear HW8 d0 d1 df
          have FX : Hid (∀ w', Ext w8 w' → (w'.cell? ⟨g, 0, none⟩ = some (.int .i64 a.1) ∧ w'.cell? ⟨g, 1, none⟩ = some (.int .i64 a.2)) ∧ w'.cell? ⟨w.heap.size + 1 + 1, 0, none⟩ = some (.int .i64 MU.1) ∧ w'.cell? ⟨w.heap.size + 1 + 1, 1, none⟩ = some (.int .i64 MU.2)) := fun w' hx => by
            obtain ⟨b0, o0, e1, q1, q2⟩ := Prs.at_ (Rd.of_own (own_below HOL8.out hx) : Prs w' _ (a :: t)) (i := 0) (x := a) rfl
            cases e1
            simp only [Nat.zero_mul, Nat.add_zero] at q1 q2
            obtain ⟨l0, l1, -⟩ := rat_cells HB5.out
            exact ⟨⟨q1, q2⟩, hx.cell l0, hx.cell l1⟩
          have hk4 : (1 : Int) ≤ (t.length : Int) + 1 := by omega
          have hxs8 := hid hxs
          have hgB : g ≠ w.heap.size + 1 := by
            have h1 := (HOL8.out.lt g rfl).1
            have h2 := h5.size
            have h3 := (Array.getElem?_eq_some_iff.1 (F5.out w3 (Ext.refl _))).1
            omega
          have hgB' : ¬ g = w.heap.size + 1 := hgB
          have hgC' : ¬ g = w.heap.size + 1 + 1 := by
            have h1 := (HOL8.out.lt g rfl).1
            have h2 := h5.size
            have h3 := (Array.getElem?_eq_some_iff.1 (F5.out w3 (Ext.refl _))).1
            omega
          by_cases hk1 : cl = 1
          · have ht0 : t.length = 0 := by omega
            subst hk1
            have KG1 : Hid (∀ w', Ext w8 w' → Calls Tryz.prog 51 #[.agg #[.int .i64 a.1, .int .i64 a.2], .slice (some ⟨g, 0, none⟩) t.length 0] w' fun e w2 => e = .returned (.agg #[.int .i64 ML.1, .int .i64 ML.2]) ∧ Ext w' w2) := fun w' hx => KG.out (some ⟨g, 0, none⟩) 0 w' hx (.inl ht0)
            clear KG ht0 hcap1
            have hq0 : Ext w8 w8.drew := Ext.drew (Ext.refl w8)
            go_region_held3 (fun w' => (w'.cell? ⟨g, 0, none⟩ = some (.int .i64 a.1) ∧ w'.cell? ⟨g, 1, none⟩ = some (.int .i64 a.2)) ∧ w'.cell? ⟨w.heap.size + 1 + 1, 0, none⟩ = some (.int .i64 MU.1) ∧ w'.cell? ⟨w.heap.size + 1 + 1, 1, none⟩ = some (.int .i64 MU.2))
              (first | exact FX.out _ hq0 | exact FX.out _ (Ext.refl _) | exact FX.out _ hw9 | (simp [go_sem, *]))
              (first | (go_at_call 51; refine (KG1.out _ hq0).mono ?_; rintro e w9 ⟨rfl, hC⟩; have hw9 := hq0.trans hC; have hb4n := (Below.block hw9 _ (Array.getElem?_eq_some_iff.1 HB4.out).1).trans HB4.out; have hb5n := (Below.block hw9 _ (Array.getElem?_eq_some_iff.1 HB5.out).1).trans HB5.out; obtain ⟨c0, c1, cf⟩ := rat_cells hb4n; obtain ⟨d0, d1, df⟩ := rat_cells hb5n; obtain ⟨⟨g0, g1⟩, -⟩ := FX.out w9 hw9))
            obtain ⟨p1, p2, p3⟩ := rat_put2 hb4n hb5n (by omega) (hxs8.out.trans hw9) (Nat.le_succ _) (by omega) (.int .i64 ML.1) (.int .i64 ML.2) (.int .i64 MU.1) (.int .i64 MU.2)
            obtain ⟨W9, hW9⟩ : ∃ W9, ((((w9.setCell ⟨w.heap.size + 1, 0, none⟩ (.int .i64 ML.1)).setCell ⟨w.heap.size + 1, 1, none⟩ (.int .i64 ML.2)).setCell ⟨w.heap.size + 1 + 1, 0, none⟩ (.int .i64 MU.1)).setCell ⟨w.heap.size + 1 + 1, 1, none⟩ (.int .i64 MU.2)) = W9 := ⟨_, rfl⟩
            have q1 : W9.heap[w.heap.size + 1]? = some (.cells #[.int .i64 ML.1, .int .i64 ML.2] 63 (0, 0)) := by rw [← hW9]; exact p1
            have q2 : W9.heap[w.heap.size + 1 + 1]? = some (.cells #[.int .i64 MU.1, .int .i64 MU.2] 63 (0, 0)) := by rw [← hW9]; exact p2
            have q3 : Ext w W9 := by rw [← hW9]; exact p3
            obtain ⟨k0, k1, -⟩ := rat_cells q1
            obtain ⟨l0, l1, -⟩ := rat_cells q2
            clear p1 p2 p3 q1 q2 hb4n hb5n FX KG1
            go_wp2
            try rw [hW9]
            refine bodyPost_ret (v := .tuple #[.agg #[.int .i64 ML.1, .int .i64 ML.2], .agg #[.int .i64 MU.1, .int .i64 MU.2], .int .i64 0]) ?_ rfl ⟨by rw [HE.out, HL.out, HU.out]; rfl, q3⟩
            simp [results, Tryz.results60, go_sem, k0, k1, l0, l1]
          · have KG1 : Hid (∀ w', Ext w8 w' → Calls Tryz.prog 51 #[.agg #[.int .i64 a.1, .int .i64 a.2], .slice (some ⟨g, 2, none⟩) t.length (cl - 1)] w' fun e w2 => e = .returned (.agg #[.int .i64 ML.1, .int .i64 ML.2]) ∧ Ext w' w2) := fun w' hx => KG.out (some ⟨g, 2, none⟩) (cl - 1) w' hx (.inr rfl)
            have hk2 : ¬ cl - 1 = 0 := by omega
            have hk3 : (1 : Int) ≤ (cl : Int) := by omega
            clear KG
            have hq0 : Ext w8 w8.drew := Ext.drew (Ext.refl w8)
            go_region_held3 (fun w' => (w'.cell? ⟨g, 0, none⟩ = some (.int .i64 a.1) ∧ w'.cell? ⟨g, 1, none⟩ = some (.int .i64 a.2)) ∧ w'.cell? ⟨w.heap.size + 1 + 1, 0, none⟩ = some (.int .i64 MU.1) ∧ w'.cell? ⟨w.heap.size + 1 + 1, 1, none⟩ = some (.int .i64 MU.2))
              (first | exact FX.out _ hq0 | exact FX.out _ (Ext.refl _) | exact FX.out _ hw9 | (simp [go_sem, *]))
              (first | (go_at_call 51; refine (KG1.out _ hq0).mono ?_; rintro e w9 ⟨rfl, hC⟩; have hw9 := hq0.trans hC; have hb4n := (Below.block hw9 _ (Array.getElem?_eq_some_iff.1 HB4.out).1).trans HB4.out; have hb5n := (Below.block hw9 _ (Array.getElem?_eq_some_iff.1 HB5.out).1).trans HB5.out; obtain ⟨c0, c1, cf⟩ := rat_cells hb4n; obtain ⟨d0, d1, df⟩ := rat_cells hb5n; obtain ⟨⟨g0, g1⟩, -⟩ := FX.out w9 hw9))
            obtain ⟨p1, p2, p3⟩ := rat_put2 hb4n hb5n (by omega) (hxs8.out.trans hw9) (Nat.le_succ _) (by omega) (.int .i64 ML.1) (.int .i64 ML.2) (.int .i64 MU.1) (.int .i64 MU.2)
            obtain ⟨W9, hW9⟩ : ∃ W9, ((((w9.setCell ⟨w.heap.size + 1, 0, none⟩ (.int .i64 ML.1)).setCell ⟨w.heap.size + 1, 1, none⟩ (.int .i64 ML.2)).setCell ⟨w.heap.size + 1 + 1, 0, none⟩ (.int .i64 MU.1)).setCell ⟨w.heap.size + 1 + 1, 1, none⟩ (.int .i64 MU.2)) = W9 := ⟨_, rfl⟩
            have q1 : W9.heap[w.heap.size + 1]? = some (.cells #[.int .i64 ML.1, .int .i64 ML.2] 63 (0, 0)) := by rw [← hW9]; exact p1
            have q2 : W9.heap[w.heap.size + 1 + 1]? = some (.cells #[.int .i64 MU.1, .int .i64 MU.2] 63 (0, 0)) := by rw [← hW9]; exact p2
            have q3 : Ext w W9 := by rw [← hW9]; exact p3
            obtain ⟨k0, k1, -⟩ := rat_cells q1
            obtain ⟨l0, l1, -⟩ := rat_cells q2
            clear p1 p2 p3 q1 q2 hb4n hb5n FX KG1
            go_wp2
            try rw [hW9]
            refine bodyPost_ret (v := .tuple #[.agg #[.int .i64 ML.1, .int .i64 ML.2], .agg #[.int .i64 MU.1, .int .i64 MU.2], .int .i64 0]) ?_ rfl ⟨by rw [HE.out, HL.out, HU.out]; rfl, q3⟩
            simp [results, Tryz.results60, go_sem, k0, k1, l0, l1]
end Go.Proofs.YtjnobdcbbboeeaaGreat

namespace Go.Proofs.YtjnobdcbbboeeaaGreat
open Go Go.RowKit Go.Shelf
set_option linter.unusedVariables false
set_option linter.unusedSimpArgs false

set_option maxRecDepth 100000 in
set_option maxHeartbeats 8000000 in
theorem meat_any (v : Value) (h : Hs) (m s : Int) (w : World) (hr : HsR w v h) (hs : h.sized) :
    Calls Tryz.prog 59 #[v, .int .i64 m, .int .i64 s] w fun e w' => e = .returned (.tuple #[.agg #[.int .i64 (meatL h m s), .int .i64 (meatU h m s)], .int .i64 (meatE h m s)]) ∧ Ext w w' := by
  obtain ⟨A, c, rfl, hrw, hcap⟩ := hr
  obtain ⟨T, hT⟩ : ∃ T, checkH h = T := ⟨_, rfl⟩
  obtain ⟨w1, hw1⟩ : ∃ w1, w.alloc (.cells #[.int .i64 h.mo, .int .i64 h.pk, .slice A h.ws.length c] 25) = w1 := ⟨_, rfl⟩
  obtain ⟨w3, hw3⟩ : ∃ w3, w1.alloc (.cells #[.int .i64 0, .int .i64 0] 65) = w3 := ⟨_, rfl⟩
  have hx1 : Ext w w1 := by rw [← hw1]; exact Ext.alloc (Ext.refl w) _
  have hx13 : Ext w1 w3 := by rw [← hw3]; exact Ext.alloc (Ext.refl w1) _
  have s1 : w1.heap.size = w.heap.size + 1 := by rw [← hw1]; simp
  have s3 : w3.heap.size = w.heap.size + 1 + 1 := by rw [← hw3]; simp [s1]
  have b1 : w3.heap[w.heap.size]? = some (.cells #[.int .i64 h.mo, .int .i64 h.pk, .slice A h.ws.length c] 25 (0, 0)) := (Below.block hx13 w.heap.size (by omega)).trans (by rw [← hw1]; exact heap_alloc_new w _)
  have b6 : w3.heap[w.heap.size + 1]? = some (.cells #[.int .i64 0, .int .i64 0] 65 (0, 0)) := by rw [← hw3, ← s1]; exact heap_alloc_new w1 _
  have hx3 := hx1.trans hx13
  have FH : Hid (∀ w', Ext w3 w' → w'.cell? ⟨w.heap.size, 0, none⟩ = some (.int .i64 h.mo) ∧ w'.cell? ⟨w.heap.size, 1, none⟩ = some (.int .i64 h.pk) ∧ w'.cell? ⟨w.heap.size, 2, none⟩ = some (.slice A h.ws.length c)) := fun w' hx =>
    ⟨hx.cell (by rw [cell_of_row w3 w.heap.size 0 _ _ _ b1]; rfl), hx.cell (by rw [cell_of_row w3 w.heap.size 1 _ _ _ b1]; rfl), hx.cell (by rw [cell_of_row w3 w.heap.size 2 _ _ _ b1]; rfl)⟩
  have F6 : Hid (∀ w', Ext w3 w' → w'.heap[w.heap.size + 1]? = some (.cells #[.int .i64 0, .int .i64 0] 65 (0, 0))) := fun w' hx => (Below.block hx _ (by omega)).trans b6
  have HRW : Hid (∀ w', Ext w3 w' → HsR w' (hval h A c) h) := fun w' hx => ⟨A, c, rfl, Rows.ext hrw (hx3.trans hx), hcap⟩
  have KC := check_any (hval h A c) h w3 (HRW.out w3 (Ext.refl _)) hs
  have KB : Hid (∀ w', Ext w3 w' → Calls Tryz.prog 60 #[.agg #[.int .i64 h.mo, .int .i64 h.pk, .slice A h.ws.length c], .int .i64 m] w' fun e w2 => e = .returned (.tuple #[.agg #[.int .i64 (bndL h m).1, .int .i64 (bndL h m).2], .agg #[.int .i64 (bndU h m).1, .int .i64 (bndU h m).2], .int .i64 (bndE h m)]) ∧ Ext w' w2) := fun w' hx => bounds_any (hval h A c) h m w' (HRW.out w' hx) hs
  unfold hval at KC
  rw [hT] at KC
  have KC := hid KC
  have HT := hid hT
  have HW1 := hid hw1
  have HW3 := hid hw3
  have HS1 := hid s1
  clear hw1 hw3 hT hrw b1 b6 hs hx13 s1 s3 hx1 HRW
  unfold hval
  go_enter Tryz.func59, Tryz.ntmps59
  go_upto_region 1 with fail
  rw [HW1.out, HW3.out]
  try rw [HS1.out]
  clear HW1 HW3
  obtain ⟨c0, c1, c2⟩ := FH.out w3 (Ext.refl _)
  go_wp2_with fail
  refine KC.out.mono ?_
  clear KC c0 c1 c2
  rintro e w4 ⟨rfl, h4⟩
  by_cases h0 : T = 0
  case neg =>
    have h0b : (T != 0) = true := by simpa using h0
    have HE : Hid (meatE h m s = T) := by unfold Hid meatE; rw [HT.out, if_pos h0]
    have HL : Hid (meatL h m s = 0) := by unfold Hid meatL; rw [HE.out, if_neg h0]
    have HU : Hid (meatU h m s = 0) := by unfold Hid meatU; rw [HE.out, if_neg h0]
    have hb6 := F6.out w4 h4
    obtain ⟨c0, c1, cf⟩ := rat_cells hb6
    have p1 := rat_put hb6 (.int .i64 0) (.int .i64 0)
    have p3 := Ext.setCell (Ext.setCell (hx3.trans h4) (p := ⟨w.heap.size + 1, 0, none⟩) (Nat.le_succ _) (.int .i64 0)) (p := ⟨w.heap.size + 1, 1, none⟩) (Nat.le_succ _) (.int .i64 0)
    obtain ⟨W9, hW9⟩ : ∃ W9, (w4.setCell ⟨w.heap.size + 1, 0, none⟩ (.int .i64 0)).setCell ⟨w.heap.size + 1, 1, none⟩ (.int .i64 0) = W9 := ⟨_, rfl⟩
    rw [hW9] at p1 p3
    obtain ⟨k0, k1, -⟩ := rat_cells p1
    clear p1 hb6
    go_wp2
    try rw [hW9]
    refine bodyPost_ret (v := .tuple #[.agg #[.int .i64 0, .int .i64 0], .int .i64 T]) ?_ rfl ⟨by rw [HE.out, HL.out, HU.out], p3⟩
    simp [results, Tryz.results59, go_sem, k0, k1]
  subst h0
  have HOK : Hid (HsOK h) := checkH_ok HT.out
  go_wp2_with fail
  refine (in_any _ _ _ _).mono ?_
  rintro e w5 ⟨rfl, rfl⟩
  cases hI : inB s 0 1000
  case false =>
    have HE : Hid (meatE h m s = 3) := by unfold Hid meatE; rw [if_neg (fun x => x HT.out), if_pos hI]
    have HL : Hid (meatL h m s = 0) := by unfold Hid meatL; rw [HE.out]; rfl
    have HU : Hid (meatU h m s = 0) := by unfold Hid meatU; rw [HE.out]; rfl
    clear hI
    have hb6 := F6.out w4 h4
    obtain ⟨c0, c1, cf⟩ := rat_cells hb6
    have p1 := rat_put hb6 (.int .i64 0) (.int .i64 0)
    have p3 := Ext.setCell (Ext.setCell (hx3.trans h4) (p := ⟨w.heap.size + 1, 0, none⟩) (Nat.le_succ _) (.int .i64 0)) (p := ⟨w.heap.size + 1, 1, none⟩) (Nat.le_succ _) (.int .i64 0)
    obtain ⟨W9, hW9⟩ : ∃ W9, (w4.setCell ⟨w.heap.size + 1, 0, none⟩ (.int .i64 0)).setCell ⟨w.heap.size + 1, 1, none⟩ (.int .i64 0) = W9 := ⟨_, rfl⟩
    rw [hW9] at p1 p3
    obtain ⟨k0, k1, -⟩ := rat_cells p1
    clear p1 hb6
    go_wp2
    try rw [hW9]
    refine bodyPost_ret (v := .tuple #[.agg #[.int .i64 0, .int .i64 0], .int .i64 3]) ?_ rfl ⟨by rw [HE.out, HL.out, HU.out], p3⟩
    simp [results, Tryz.results59, go_sem, k0, k1]
  have hsb := inB_iff.1 hI
  have HBE : Hid (meatE h m s = if bndE h m ≠ 0 then bndE h m else if floorR (bndU h m) s < ceilR (bndL h m) s then 8 else 0) := by unfold Hid meatE; rw [if_neg (fun x => x HT.out), hI]; rfl
  have hbo : bndE h m = 0 → BndOK h m (bndL h m) (bndU h m) := bnd_ok HOK.out
  have KB1 := KB.out w4 h4
  obtain ⟨lo, hlo⟩ : ∃ r, bndL h m = r := ⟨_, rfl⟩
  obtain ⟨hi, hhi⟩ : ∃ r, bndU h m = r := ⟨_, rfl⟩
  obtain ⟨E, hE⟩ : ∃ r, bndE h m = r := ⟨_, rfl⟩
  rw [hlo, hhi, hE] at KB1 hbo HBE
  have hlo0 := hid hlo
  have hhi0 := hid hhi
  have KB1 := hid KB1
  have HBO := hid hbo
  clear hI hbo hlo hhi hE KB
  obtain ⟨c0, c1, c2⟩ := FH.out w4 h4
  go_wp2_with fail
  refine KB1.out.mono ?_
  clear KB1 c0 c1 c2
  rintro e w5 ⟨rfl, h5'⟩
  have h5 := h4.trans h5'
  obtain ⟨w6, hw6⟩ : ∃ w6, w5.alloc (.cells #[.int .i64 lo.1, .int .i64 lo.2] 63) = w6 := ⟨_, rfl⟩
  obtain ⟨w7, hw7⟩ : ∃ w7, w6.alloc (.cells #[.int .i64 hi.1, .int .i64 hi.2] 63) = w7 := ⟨_, rfl⟩
  have hx56 : Ext w5 w6 := by rw [← hw6]; exact Ext.alloc (Ext.refl _) _
  have hx67 : Ext w6 w7 := by rw [← hw7]; exact Ext.alloc (Ext.refl _) _
  have s6 : w6.heap.size = w5.heap.size + 1 := by rw [← hw6]; simp
  have b9 : w7.heap[w5.heap.size]? = some (.cells #[.int .i64 lo.1, .int .i64 lo.2] 63 (0, 0)) := (Below.block hx67 w5.heap.size (by omega)).trans (by rw [← hw6]; exact heap_alloc_new w5 _)
  have b10 : w7.heap[w5.heap.size + 1]? = some (.cells #[.int .i64 hi.1, .int .i64 hi.2] 63 (0, 0)) := by rw [← hw7, ← s6]; exact heap_alloc_new w6 _
  have h7 := h5.trans (hx56.trans hx67)
  have HW6 := hid hw6
  have HW7 := hid hw7
  have HS6 := hid s6
  obtain ⟨g0, g1, -⟩ := rat_cells b9
  obtain ⟨g2, g3, -⟩ := rat_cells b10
  clear hw6 hw7 s6 b9 b10 hx56 hx67
  go_upto_region 7 with fail
  try rw [HW6.out]
  try rw [HW7.out]
  clear HW6 HW7
  by_cases hE0 : E = 0
  case neg =>
    have h0b : (E != 0) = true := by simpa using hE0
    have HE : Hid (meatE h m s = E) := by unfold Hid; rw [HBE.out, if_pos hE0]
    have HL : Hid (meatL h m s = 0) := by unfold Hid meatL; rw [HE.out, if_neg hE0]
    have HU : Hid (meatU h m s = 0) := by unfold Hid meatU; rw [HE.out, if_neg hE0]
    have hb6 := F6.out w7 h7
    obtain ⟨c0, c1, cf⟩ := rat_cells hb6
    have p1 := rat_put hb6 (.int .i64 0) (.int .i64 0)
    have p3 := Ext.setCell (Ext.setCell (hx3.trans h7) (p := ⟨w.heap.size + 1, 0, none⟩) (Nat.le_succ _) (.int .i64 0)) (p := ⟨w.heap.size + 1, 1, none⟩) (Nat.le_succ _) (.int .i64 0)
    obtain ⟨W9, hW9⟩ : ∃ W9, (w7.setCell ⟨w.heap.size + 1, 0, none⟩ (.int .i64 0)).setCell ⟨w.heap.size + 1, 1, none⟩ (.int .i64 0) = W9 := ⟨_, rfl⟩
    rw [hW9] at p1 p3
    obtain ⟨k0, k1, -⟩ := rat_cells p1
    clear p1 hb6
    go_wp2
    try rw [hW9]
    refine bodyPost_ret (v := .tuple #[.agg #[.int .i64 0, .int .i64 0], .int .i64 E]) ?_ rfl ⟨by rw [HE.out, HL.out, HU.out], p3⟩
    simp [results, Tryz.results59, go_sem, k0, k1]
  subst hE0
  have hb := HBO.out rfl
  have hle := hb.le1000 HOK.out
  have hpl := hb.pl
  have hph := hb.ph
  have m1 := mul_small (x := lo.1) (y := s) ⟨Int.le_of_lt hpl.1, by omega⟩ ⟨hsb.1, by omega⟩
  have m2 := mul_small (x := hi.1) (y := s) ⟨Int.le_of_lt hph.1, by omega⟩ ⟨hsb.1, by omega⟩
  obtain ⟨P1, hP1⟩ : ∃ P, lo.1 * s = P := ⟨_, rfl⟩
  obtain ⟨P2, hP2⟩ : ∃ P, hi.1 * s = P := ⟨_, rfl⟩
  obtain ⟨CE, hCE⟩ : ∃ P, (P1 + lo.2 - 1).tdiv lo.2 = P := ⟨_, rfl⟩
  obtain ⟨FL, hFL⟩ : ∃ P, P2.tdiv hi.2 = P := ⟨_, rfl⟩
  have eC : ceilR lo s = CE := by unfold ceilR; rw [hP1, hCE]
  have eF : floorR hi s = FL := by unfold floorR; rw [hP2, hFL]
  rw [hP1] at m1
  rw [hP2] at m2
  have q1 : 0 < lo.2 := hpl.2
  have q2 : 0 < hi.2 := hph.2
  have c1 : 0 ≤ CE ∧ CE ≤ P1 + lo.2 - 1 := by rw [← hCE]; exact ⟨Int.tdiv_nonneg (by omega) (by omega), by rw [Int.tdiv_eq_ediv_of_nonneg (by omega)]; exact Int.ediv_le_self _ (by omega)⟩
  have c2 : 0 ≤ FL ∧ FL ≤ P2 := by rw [← hFL]; exact ⟨Int.tdiv_nonneg (by omega) (by omega), by rw [Int.tdiv_eq_ediv_of_nonneg (by omega)]; exact Int.ediv_le_self _ (by omega)⟩
  have H1 : IntKind.i64.wrap (lo.1 * s) = P1 := by rw [hP1]; exact IntWalk.i64_in _ ⟨by omega, by omega⟩
  have H2 : IntKind.i64.wrap (P1 + lo.2) = P1 + lo.2 := IntWalk.i64_in _ ⟨by omega, by omega⟩
  have H3 : IntKind.i64.wrap (P1 + lo.2 - 1) = P1 + lo.2 - 1 := IntWalk.i64_in _ ⟨by omega, by omega⟩
  have H4 : IntKind.i64.wrap ((P1 + lo.2 - 1).tdiv lo.2) = CE := by rw [hCE]; exact IntWalk.i64_in _ ⟨by omega, by omega⟩
  have H5 : IntKind.i64.wrap (hi.1 * s) = P2 := by rw [hP2]; exact IntWalk.i64_in _ ⟨by omega, by omega⟩
  have H6 : IntKind.i64.wrap (P2.tdiv hi.2) = FL := by rw [hFL]; exact IntWalk.i64_in _ ⟨by omega, by omega⟩
  have n1 : ¬ lo.2 = 0 := by omega
  have n2 : ¬ hi.2 = 0 := by omega
  have HBE2 : Hid (meatE h m s = if FL < CE then 8 else 0) := by unfold Hid; rw [HBE.out, eC, eF]; rfl
  have HB9 : Hid (∀ w', Ext w7 w' → w'.cell? ⟨w5.heap.size, 0, none⟩ = some (.int .i64 lo.1) ∧ w'.cell? ⟨w5.heap.size, 1, none⟩ = some (.int .i64 lo.2) ∧ w'.cell? ⟨w5.heap.size + 1, 0, none⟩ = some (.int .i64 hi.1) ∧ w'.cell? ⟨w5.heap.size + 1, 1, none⟩ = some (.int .i64 hi.2)) := fun w' hx => ⟨hx.cell g0, hx.cell g1, hx.cell g2, hx.cell g3⟩
  have gA : ∀ o, (w7.alloc o).cell? ⟨w5.heap.size, 0, none⟩ = some (.int .i64 lo.1) := fun o => (HB9.out _ (Ext.alloc (Ext.refl _) o)).1
  have gB : ∀ o, (w7.alloc o).cell? ⟨w5.heap.size, 1, none⟩ = some (.int .i64 lo.2) := fun o => (HB9.out _ (Ext.alloc (Ext.refl _) o)).2.1
  have gC : ∀ o, (w7.alloc o).cell? ⟨w5.heap.size + 1, 0, none⟩ = some (.int .i64 hi.1) := fun o => (HB9.out _ (Ext.alloc (Ext.refl _) o)).2.2.1
  have gD : ∀ o, (w7.alloc o).cell? ⟨w5.heap.size + 1, 1, none⟩ = some (.int .i64 hi.2) := fun o => (HB9.out _ (Ext.alloc (Ext.refl _) o)).2.2.2
  clear hb hpl hph m1 m2 hP1 hP2 hCE hFL HBE c1 c2
  go_wp2
  go_region
  obtain ⟨W8, hW8⟩ : ∃ W8, (w7.alloc (.cells #[.int .i64 CE, .int .i64 FL] 65)).drew = W8 := ⟨_, rfl⟩
  have hx8 : Ext w7 W8 := by rw [← hW8]; exact Ext.drew (Ext.alloc (Ext.refl _) _)
  have b8 : W8.heap[w7.heap.size]? = some (.cells #[.int .i64 CE, .int .i64 FL] 65 (0, 0)) := by rw [← hW8]; exact heap_alloc_new w7 _
  have h8 := h7.trans hx8
  rw [hW8]
  obtain ⟨d0, d1, df⟩ := rat_cells b8
  clear hW8 gA gB gC gD g0 g1 g2 g3 b8
  by_cases hlt : FL < CE
  · have HE : Hid (meatE h m s = 8) := by unfold Hid; rw [HBE2.out, if_pos hlt]
    have HL : Hid (meatL h m s = 0) := by unfold Hid meatL; rw [HE.out]; rfl
    have HU : Hid (meatU h m s = 0) := by unfold Hid meatU; rw [HE.out]; rfl
    have hb6 := F6.out W8 h8
    obtain ⟨c0, c1, cf⟩ := rat_cells hb6
    have p1 := rat_put hb6 (.int .i64 0) (.int .i64 0)
    have p3 := Ext.setCell (Ext.setCell (hx3.trans h8) (p := ⟨w.heap.size + 1, 0, none⟩) (Nat.le_succ _) (.int .i64 0)) (p := ⟨w.heap.size + 1, 1, none⟩) (Nat.le_succ _) (.int .i64 0)
    obtain ⟨W9, hW9⟩ : ∃ W9, (W8.setCell ⟨w.heap.size + 1, 0, none⟩ (.int .i64 0)).setCell ⟨w.heap.size + 1, 1, none⟩ (.int .i64 0) = W9 := ⟨_, rfl⟩
    rw [hW9] at p1 p3
    obtain ⟨k0, k1, -⟩ := rat_cells p1
    clear p1 hb6
    go_wp2
    try rw [hW9]
    refine bodyPost_ret (v := .tuple #[.agg #[.int .i64 0, .int .i64 0], .int .i64 8]) ?_ rfl ⟨by rw [HE.out, HL.out, HU.out], p3⟩
    simp [results, Tryz.results59, go_sem, k0, k1]
  · have HE : Hid (meatE h m s = 0) := by unfold Hid; rw [HBE2.out, if_neg hlt]
    have HL : Hid (meatL h m s = CE) := by unfold Hid meatL; rw [HE.out, if_pos rfl, hlo0.out]; exact eC
    have HU : Hid (meatU h m s = FL) := by unfold Hid meatU; rw [HE.out, if_pos rfl, hhi0.out]; exact eF
    have hb6 := F6.out W8 h8
    obtain ⟨c0, c1, cf⟩ := rat_cells hb6
    have p1 := rat_put hb6 (.int .i64 CE) (.int .i64 FL)
    have p3 := Ext.setCell (Ext.setCell (hx3.trans h8) (p := ⟨w.heap.size + 1, 0, none⟩) (Nat.le_succ _) (.int .i64 CE)) (p := ⟨w.heap.size + 1, 1, none⟩) (Nat.le_succ _) (.int .i64 FL)
    obtain ⟨W9, hW9⟩ : ∃ W9, (W8.setCell ⟨w.heap.size + 1, 0, none⟩ (.int .i64 CE)).setCell ⟨w.heap.size + 1, 1, none⟩ (.int .i64 FL) = W9 := ⟨_, rfl⟩
    rw [hW9] at p1 p3
    obtain ⟨k0, k1, -⟩ := rat_cells p1
    clear p1 hb6
    go_wp2
    try rw [hW9]
    refine bodyPost_ret (v := .tuple #[.agg #[.int .i64 CE, .int .i64 FL], .int .i64 0]) ?_ rfl ⟨by rw [HE.out, HL.out, HU.out], p3⟩
    simp [results, Tryz.results59, go_sem, k0, k1]
theorem meatL_bound (h : Hs) (m s : Int) : 0 ≤ meatL h m s ∧ meatL h m s ≤ 2000000000000 := by
  unfold meatL
  split
  · rename_i e
    unfold meatE at e
    split at e
    · rename_i h1; exact absurd e h1
    · rename_i h1
      split at e
      · cases e
      · rename_i h2
        split at e
        · rename_i h3; exact absurd e h3
        · rename_i h3
          have k : HsOK h := checkH_ok (Classical.not_not.1 h1)
          have hs : inB s 0 1000 = true := by simpa using h2
          have hb := bnd_ok k (Classical.not_not.1 h3)
          have hle := hb.le1000 k
          have hpl := hb.pl
          have hsb := inB_iff.1 hs
          have m1 := mul_small (x := (bndL h m).1) (y := s) ⟨Int.le_of_lt hpl.1, by omega⟩ ⟨hsb.1, by omega⟩
          have q1 := hpl.2
          have hn := ceil_nonneg hpl hsb.1
          refine ⟨hn, ?_⟩
          unfold ceilR
          rw [Int.tdiv_eq_ediv_of_nonneg (by omega)]
          have := Int.ediv_le_self (a := (bndL h m).1 * s + (bndL h m).2 - 1) (bndL h m).2 (by omega)
          omega
  · omega
end Go.Proofs.YtjnobdcbbboeeaaGreat
