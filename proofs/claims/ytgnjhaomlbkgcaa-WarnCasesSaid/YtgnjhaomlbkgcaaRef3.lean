/- The walks of the reference's Everyone and Gaps. Printed by my gen_ref3.py. -/
import Derived.Test.YtgnjhaomlbkgcaaRef2
import Derived.Test.YtgnjhaomlbkgcaaRefQ
import Derived.Test.YtgnjhaomlbkgcaaWTruth
import Derived.Test.YtgnjhaomlbkgcaaBelS
import Derived.Test.YtgnjhaomlbkgcaaOwn
namespace Go.Proofs.Ytgnjhaomlbkgcaa
open Go Go.RowKit
set_option linter.unusedVariables false
set_option linter.unusedSimpArgs false

/-! Rows of truth values -/
def Bools (w : World) (A : Option Addr) (l : List Bool) : Prop := Rd w A (l.map Value.bool)
theorem Bools.ext {w w' : World} {A : Option Addr} {l : List Bool} (h : Bools w A l) (hx : Ext w w') : Bools w' A l := Rd.ext h hx
theorem Bools.at_ {w : World} {A : Option Addr} {l : List Bool} {k : Nat} {x : Bool} (h : Bools w A l) (hk : l[k]? = some x) :
    ∃ b off, A = some ⟨b, off, none⟩ ∧ w.cell? ⟨b, off + k, none⟩ = some (.bool x) := by
  obtain ⟨b, off, hA, hc⟩ := Rd.at_ h (by intro e; have := congrArg List.length e; simp at this; subst this; simp at hk)
  exact ⟨b, off, hA, hc k _ (by simp [hk])⟩
def Brow (w : World) (B : Nat) (l : List Bool) : Prop := w.heap[B]? = some (.cells (l.map Value.bool).toArray 4 (0, 0))
theorem Brow.lt {w : World} {B : Nat} {l : List Bool} (h : Brow w B l) : B < w.heap.size := (Array.getElem?_eq_some_iff.1 h).1
theorem Brow.ext {w w' : World} {B : Nat} {l : List Bool} (h : Brow w B l) (hx : Ext w w') : Brow w' B l := (Below.block hx B h.lt).trans h
theorem Brow.belS {S : Nat → Prop} {w w' : World} {B : Nat} {l : List Bool} (h : Brow w B l) (hx : BelS S w w') (hn : ¬ S B) : Brow w' B l := hx.heap h hn
theorem Irow.belS {S : Nat → Prop} {w w' : World} {B : Nat} {l : List Int} (h : Irow w B l) (hx : BelS S w w') (hn : ¬ S B) : Irow w' B l := hx.heap h hn
theorem Brow.at_ {w : World} {B : Nat} {l : List Bool} (h : Brow w B l) {k : Nat} {x : Bool} (hk : l[k]? = some x) : w.cell? ⟨B, k, none⟩ = some (.bool x) := by
  rw [cell_of_row w B k _ _ _ h]; simp [hk]
theorem Brow.frozen {w : World} {B : Nat} {l : List Bool} (h : Brow w B l) (k : Nat) : w.frozen? ⟨B, k, none⟩ = false := by
  unfold Brow at h
  simp [World.frozen?, h]
theorem Brow.set {w : World} {B : Nat} {l : List Bool} (h : Brow w B l) (k : Nat) (x : Bool) : Brow (w.setCell ⟨B, k, none⟩ (.bool x)) B (l.set k x) := by
  unfold Brow at h ⊢
  simp only [World.setCell, Array.getElem?_modify, h, if_true, Option.map_some]
  simp only [List.setIfInBounds_toArray, List.map_set, Option.isSome_none, Bool.false_eq_true, if_false]
theorem Brow.bools {w : World} {B : Nat} {l : List Bool} (h : Brow w B l) : Bools w (some ⟨B, 0, none⟩) l :=
  .inr ⟨B, 0, rfl, fun j u hu => by
    rw [Nat.zero_add]
    obtain ⟨x, hx, rfl⟩ : ∃ x, l[j]? = some x ∧ Value.bool x = u := by simpa using hu
    exact h.at_ hx⟩
theorem Brow.setne {w : World} {B : Nat} {l : List Bool} (h : Brow w B l) (p : Addr) (u : Value) (hp : B ≠ p.block) : Brow (w.setCell p u) B l := (heap_setCell_ne _ _ _ _ hp).trans h
theorem Irow.setne {w : World} {B : Nat} {l : List Int} (h : Irow w B l) (p : Addr) (u : Value) (hp : B ≠ p.block) : Irow (w.setCell p u) B l := (heap_setCell_ne _ _ _ _ hp).trans h
theorem brow_ne {w : World} {B B' : Nat} {l : List Int} {l' : List Bool} (h : Irow w B l) (h' : Brow w B' l') : B ≠ B' := ty_ne ⟨_, h⟩ ⟨_, h'⟩ (by decide)
/-- Block S holds n values. -/
def RV (w : World) (S n : Nat) (f : Nat → Value) : Prop := ∀ j, j < n → w.cell? ⟨S, j, none⟩ = some (f j) ∧ w.frozen? ⟨S, j, none⟩ = false
theorem RV.ext {w w' : World} {S n : Nat} {f : Nat → Value} (h : RV w S n f) (hx : Ext w w') : RV w' S n f := fun j hj => by
  have hlt := World.block_lt_of_cell? w _ (h j hj).1
  have hb := Below.block hx S hlt
  exact ⟨hx.cell (h j hj).1, (by rw [World.frozen?, hb]; exact (h j hj).2)⟩
theorem RV.st1 {B S n t : Nat} {v1 v2 : Value} {p2 : Addr} {w w' : World} {f : Nat → Value} (h : RV w S n f) (hs : St2 B ⟨S, t, none⟩ v1 p2 v2 w w') (hp : p2.block ≠ S) (hv : w'.cell? ⟨S, t, none⟩ = some v1) : RV w' S n (fun j => if j = t then v1 else f j) := fun j hj => by
  obtain ⟨h1, h2⟩ := h j hj
  refine ⟨?_, (hs.fz _ (by rw [h1]; rfl)).trans h2⟩
  dsimp only
  split
  · rename_i e; subst e; exact hv
  · rename_i e
    exact hs.cell _ _ (fun q => e (by injection q)) (fun q => hp (by rw [← q])) h1
theorem RV.st2 {B S n t : Nat} {v1 v2 : Value} {p1 : Addr} {w w' : World} {f : Nat → Value} (h : RV w S n f) (hs : St2 B p1 v1 ⟨S, t, none⟩ v2 w w') (hp : p1.block ≠ S) (hv : w'.cell? ⟨S, t, none⟩ = some v2) : RV w' S n (fun j => if j = t then v2 else f j) := fun j hj => by
  obtain ⟨h1, h2⟩ := h j hj
  refine ⟨?_, (hs.fz _ (by rw [h1]; rfl)).trans h2⟩
  dsimp only
  split
  · rename_i e; subst e; exact hv
  · rename_i e
    exact hs.cell _ _ (fun q => hp (by rw [← q])) (fun q => e (by injection q)) h1
theorem RV.congr {w : World} {S n : Nat} {f g : Nat → Value} (h : RV w S n f) (e : ∀ j, j < n → f j = g j) : RV w S n g := fun j hj => by rw [← e j hj]; exact h j hj
theorem Irow.rv {w : World} {B n : Nat} {f : Nat → Int} (h : Irow w B (rl n f)) : RV w B n (fun j => .int .i64 (f j)) := fun j hj => ⟨h.at_ (rl_get f hj), h.frozen j⟩
theorem Brow.rv {w : World} {B n : Nat} {f : Nat → Bool} (h : Brow w B (rl n f)) : RV w B n (fun j => .bool (f j)) := fun j hj => ⟨h.at_ (rl_get f hj), h.frozen j⟩
theorem RV.ints {w : World} {B n : Nat} {f : Nat → Int} (h : RV w B n (fun j => .int .i64 (f j))) : Ints w (some ⟨B, 0, none⟩) (rl n f) :=
  .inr ⟨B, 0, rfl, fun j u hu => by
    rw [Nat.zero_add]
    rw [List.getElem?_map, Option.map_eq_some_iff] at hu
    obtain ⟨x, hx, rfl⟩ := hu
    have hj : j < n := by have := (List.getElem?_eq_some_iff.1 hx).1; simpa [rl_len] using this
    rw [rl_get f hj] at hx
    cases hx
    exact (h j hj).1⟩
theorem RV.bools {w : World} {B n : Nat} {f : Nat → Bool} (h : RV w B n (fun j => .bool (f j))) : Bools w (some ⟨B, 0, none⟩) (rl n f) :=
  .inr ⟨B, 0, rfl, fun j u hu => by
    rw [Nat.zero_add]
    rw [List.getElem?_map, Option.map_eq_some_iff] at hu
    obtain ⟨x, hx, rfl⟩ := hu
    have hj : j < n := by have := (List.getElem?_eq_some_iff.1 hx).1; simpa [rl_len] using this
    rw [rl_get f hj] at hx
    cases hx
    exact (h j hj).1⟩
theorem infoBool : (Try.prog.info? 4).map (fun i => (i.zero, i.size, i.bytes)) = some (some (.bool false), 1, 1) := by kernel_rfl
theorem made_brow (n : Nat) : madeCells #[.bool false] n = ((List.replicate n false).map Value.bool).toArray := by
  apply Array.ext
  · simp [madeCells]
  · intro i h1 h2
    simp [madeCells, Nat.mod_one]

set_option maxRecDepth 100000 in
set_option maxHeartbeats 1000000 in
theorem refevery_any (v : Value) (c : Cs) (w : World) (hc : CsR w v c) (h0 : 0 ≤ c.wi) (h6 : c.wi ≤ 6) :
    Calls Try.prog 41 #[v] w fun e w' => ∃ B, e = .returned (.slice (some ⟨B, 0, none⟩) c.wi.toNat c.wi.toNat) ∧ w.heap.size ≤ B ∧ Brow w' B (rl c.wi.toNat fun _ => true) ∧ Ext w w' := by
  obtain ⟨A1, c1, A2, c2, rfl, hB, hC⟩ := hc
  obtain ⟨n, hn⟩ : ∃ n : Nat, c.wi = n := ⟨c.wi.toNat, by omega⟩
  have HN : Hid (c.wi.toNat = n) := by unfold Hid; omega
  rw [HN.out, hn]
  have hn6 : n ≤ 6 := by omega
  clear hn h0 h6
  have hmk := fun w => run_make_row' (P := Try.prog) 77 4 (.bool false) 1 Try.underlying77 infoBool rfl .i64 .i64 n (by omega) (by omega) w
  obtain ⟨W0, hW0⟩ : ∃ W0, w.alloc (.cells #[.int .i64 c.ev, .slice A1 c.bs.length c1, .int .i64 (n : Int), .slice A2 c.cl.length c2] 72) = W0 := ⟨_, rfl⟩
  have hx0 : Ext w W0 := by rw [← hW0]; exact Ext.alloc (Ext.refl w) _
  have hz0 : W0.heap.size = w.heap.size + 1 := by rw [← hW0]; simp
  have q2 : W0.cell? ⟨w.heap.size, 2, none⟩ = some (.int .i64 (n : Int)) := by rw [← hW0]; simp [go_sem]
  go_enter Try.func41, Try.ntmps41
  go_wp2
  clear hW0
  obtain ⟨W2, hW2⟩ : ∃ W2, W0.alloc (.cells (madeCells #[.bool false] n) 4) = W2 := ⟨_, rfl⟩
  have hxW2 : Ext W0 W2 := by rw [← hW2]; exact Ext.alloc (Ext.refl _) _
  have hI0 : Brow W2 (w.heap.size + 1) (rl n fun x => decide (x < 0)) := by
    rw [← hz0, show (fun x : Nat => decide (x < 0)) = fun _ => false from funext fun x => by simp, rl_const, ← hW2, made_brow]; exact World.alloc_heap_new _ _
  rw [hW2]
  have hx2 : Ext w W2 := hx0.trans hxW2
  have hgw : w.heap.size ≤ w.heap.size + 1 := by omega
  clear hW2 hmk hxW2 q2 hz0
  go_loopw [4] (fun i wr => ∃ k : Nat, k ≤ n ∧ i = .int .i64 (k : Int) ∧ Brow wr (w.heap.size + 1) (rl n fun x => decide (x < k)) ∧ Ext w wr) (fun i _ => n - (intOf i).toNat)
  case atStart => exact ⟨0, Nat.zero_le _, rfl, hI0, hx2⟩
  case round =>
    obtain ⟨k, hk, rfl, hI, hx⟩ := hrel
    by_cases hlt : k < n
    · have hlt' : (k : Int) < (n : Int) := by omega
      have hcell := hI.at_ (rl_get _ hlt)
      have hfz := hI.frozen k
      have hI2 := hI.set k true
      rw [← rl_upd] at hI2
      have hfn : upd1 (fun x : Nat => decide (x < k)) k true = fun x : Nat => decide (x < k + 1) := by
        funext x; unfold upd1
        by_cases e : x = k
        · subst e; simp
        · rw [if_neg e, decide_eq_decide]; omega
      rw [hfn] at hI2
      have HI2 := hid hI2
      clear hfn hI2 hI
      go_wp2
      go_roundw
      case rel => exact ⟨k + 1, by omega, by go_num, HI2.out, hx.setCell hgw _⟩
      case measure => simp [intOf]; omega
    · have hlt' : ¬ (k : Int) < (n : Int) := by omega
      have hI2 : Hid (Brow wr (w.heap.size + 1) (rl n fun _ => true)) := by
        have e : rl n (fun x => decide (x < k)) = rl n fun _ => true := List.map_congr_left fun x hx => by have := List.mem_range.1 hx; simp; omega
        rw [e] at hI; exact hI
      clear hI
      go_wp2
      go_ret
      exact ⟨_, rfl, hgw, hI2.out, hx⟩

/-- Whom a row of truth values believes. -/
def belT (bel : List Bool) : Int → Bool := fun n => bel.getD n.toNat false
def GapsPost (w : World) (N : Nat) (r : GS × Bool) (e : Ending) (w' : World) : Prop :=
  ∃ g1 g2, e = .returned (.tuple #[.slice (some ⟨g1, 0, none⟩) N N, .slice (some ⟨g2, 0, none⟩) N N, .bool r.2]) ∧ RV w' g1 N (fun j => .int .i64 (r.1.sm j)) ∧ RV w' g2 N (fun j => .bool (r.1.is j)) ∧ Ext w w' ∧ w.heap.size ≤ g1 ∧ w.heap.size ≤ g2

set_option maxRecDepth 100000 in
set_option maxHeartbeats 4000000 in
theorem refgaps_any (v : Value) (c : Cs) (A : Option Addr) (kb : Nat) (bel : List Bool) (a : Nat) (w : World) (hc : CsR w v c) (hs : c.sized) (h0 : checkC c = 0) (hA : Bools w A bel) (hbl : bel.length = c.wi.toNat) (ha : (a : Int) < c.ev) :
    Calls Try.prog 64 #[v, .slice A bel.length kb, .int .i64 (a : Int)] w (GapsPost w c.ev.toNat (gapsR (belT bel) c a)) := by
  have hc' := hc
  obtain ⟨A1, c1, A2, c2, rfl, hB, hC⟩ := hc
  obtain ⟨ev1, ev8⟩ := checkC_ev h0
  have h52 := checkC_52 h0
  have HOK : Hid (∀ b ∈ c.all, b.ok) := checkC_bd h0
  have HEV : Hid (∀ b ∈ c.all, (0 ≤ b.f ∧ b.f < c.ev) ∧ 0 ≤ b.t ∧ b.t < c.ev) := fun b hb => evOK_get (checkC_ok h0).2.2.1 hb
  have HWI : Hid (∀ x ∈ c.cl, 0 ≤ x.w ∧ x.w < c.wi) := wits h0
  have HH0 := hid h0
  have HDIF : Hid (∀ b ∈ c.all, (b.f != b.t) = true) := fun b hb => List.all_eq_true.1 (checkC_ok h0).2.2.2.2 b hb
  obtain ⟨L, hL⟩ : ∃ L, belL (belT bel) c = L := ⟨_, rfl⟩
  obtain ⟨Z, hZ⟩ : ∃ Z, zipL c = Z := ⟨_, rfl⟩
  have HZL : Hid (∀ s, gpassW (belT bel) s Z = gpass s L) := fun s => by rw [← hZ, ← hL]; exact gpassW_is (fun x hx => (wits h0 x hx).1) s
  have hZl : Z.length = c.all.length := by rw [← hZ]; exact zipL_len c
  have HZG : Hid (∀ i b, c.all[i]? = some b → ∃ x, (whoL c)[i]? = some x ∧ Z[i]? = some (b, x)) := fun i b h => by rw [← hZ]; exact zipL_get h
  have HR : Hid (gapsR (belT bel) c a = grun L (c.ev.toNat + 1) (GS0 a)) := by rw [← hL]; rfl
  have HWL := hid (whoL_len c)
  have hbi : bel.length ≤ 6 := by have := (manyOK_parts (checkC_ok h0).1).2.2.2.2.1; omega
  obtain ⟨R, hR⟩ : ∃ R, gapsR (belT bel) c a = R := ⟨_, rfl⟩
  rw [hR] at HR ⊢
  obtain ⟨n, hn⟩ : ∃ n : Nat, c.ev = n := ⟨c.ev.toNat, by omega⟩
  have HNN : Hid (c.ev.toNat = n) := by unfold Hid; omega
  rw [HNN.out] at HR ⊢
  have hn8 : n ≤ 8 := by omega
  have han : a < n := by omega
  have HBL : Hid (∀ x ∈ c.cl, 0 ≤ x.w ∧ x.w < (bel.length : Int)) := fun x hx => by have := HWI.out x hx; omega
  have hmk1 := fun w => run_make_row' (P := Try.prog) 27 3 (.int .i64 0) 8 Try.underlying27 infoInt rfl .i64 .i64 n (by omega) (by omega) w
  have hmk2 := fun w => run_make_row' (P := Try.prog) 77 4 (.bool false) 1 Try.underlying77 infoBool rfl .i64 .i64 n (by omega) (by omega) w
  have HEVN := HEV
  obtain ⟨W0, hW0⟩ : ∃ W0, w.alloc (.cells #[.int .i64 c.ev, .slice A1 c.bs.length c1, .int .i64 c.wi, .slice A2 c.cl.length c2] 72) = W0 := ⟨_, rfl⟩
  have hx0 : Ext w W0 := by rw [← hW0]; exact Ext.alloc (Ext.refl w) _
  have hz0 : W0.heap.size = w.heap.size + 1 := by rw [← hW0]; simp
  have FX : Hid (∀ w', Ext W0 w' → w'.cell? ⟨w.heap.size, 0, none⟩ = some (.int .i64 c.ev) ∧ w'.cell? ⟨w.heap.size, 1, none⟩ = some (.slice A1 c.bs.length c1) ∧ w'.cell? ⟨w.heap.size, 2, none⟩ = some (.int .i64 c.wi) ∧ w'.cell? ⟨w.heap.size, 3, none⟩ = some (.slice A2 c.cl.length c2)) := fun w' h => ⟨h.cell (by rw [← hW0]; simp [go_sem]), h.cell (by rw [← hW0]; simp [go_sem]), h.cell (by rw [← hW0]; simp [go_sem]), h.cell (by rw [← hW0]; simp [go_sem])⟩
  clear hL hZ hR h0 ev1 ev8 hbl HWI
  have HN := hid hn
  clear hn
  have HMK1 := hid hmk1
  have HMK2 := hid hmk2
  clear hmk1 hmk2
  go_enter Try.func64, Try.ntmps64
  go_wp2
  clear hW0
  refine wp_region_shut Ext (fun w' => Ext W0 w') (fun | 1 => some (fun v w' => ∃ A' c', v = .slice A' c.all.length c' ∧ Bounds w' A' c.all) | 3 => some (fun v w' => ∃ A' c', v = .slice A' c.all.length c' ∧ Ints w' A' (whoL c)) | _ => none) (by kernel_rfl) (by kernel_rfl) (fun _ _ h k => h.trans k) ?hT (Ext.drew (Ext.refl W0)) ?_
  case hT =>
    intro i R hR
    match i, hR with
    | 1, hR => cases hR; exact fun _ _ _ ⟨A', c', e, h⟩ k => ⟨A', c', e, h.ext k⟩
    | 3, hR => cases hR; exact fun _ _ _ ⟨A', c', e, h⟩ k => ⟨A', c', e, h.ext k⟩
  refine wM_val ?ua0 rfl rfl Ext.refl (fun w' hD => ?ha0) (fun pha0 => ?na0)
  case ha0 =>
    obtain ⟨d0, d1, d2, d3⟩ := FX.out _ hD.1
    go_simp; rfl
  simp only [Act.put, List.setIfInBounds_toArray, List.set_cons_succ, List.set_cons_zero, Nat.reduceAdd]
  refine wM_op _ rfl rfl (opens_call ?fa1 ?ga1 (fun w' hD => ?ha1) (fun w' hD => ?ca1)) (fun v1 hv1 => ?na1)
  case ha1 => go_simp; constructor <;> rfl
  case ca1 =>
    refine (refall_any _ c w' ((hc'.ext hx0).ext hD.1) (by omega) hs).mono ?_
    rintro e w2 ⟨A', c', rfl, ho, hb⟩
    exact ⟨_, rfl, hb, A', c', rfl, Rd.of_own ho⟩
  obtain ⟨_, -, -, A5, c5, rfl, -⟩ := hv1
  simp only [Act.put, List.setIfInBounds_toArray, List.set_cons_succ, List.set_cons_zero, Nat.reduceAdd]
  refine wM_val ?ua2 rfl rfl Ext.refl (fun w' hD => ?ha2) (fun pha2 => ?na2)
  case ha2 =>
    obtain ⟨d0, d1, d2, d3⟩ := FX.out _ hD.1
    go_simp; rfl
  simp only [Act.put, List.setIfInBounds_toArray, List.set_cons_succ, List.set_cons_zero, Nat.reduceAdd]
  refine wM_op _ rfl rfl (opens_call ?fa3 ?ga3 (fun w' hD => ?ha3) (fun w' hD => ?ca3)) (fun v3 hv3 => ?na3)
  case ha3 => go_simp; constructor <;> rfl
  case ca3 =>
    refine (refby_any _ c w' ((hc'.ext hx0).ext hD.1) (by omega) hs).mono ?_
    rintro e w2 ⟨A', c', rfl, ho, hb⟩
    exact ⟨_, rfl, hb, A', c', by rw [HWL.out], Rd.of_own ho⟩
  obtain ⟨_, -, -, A6, c6, rfl, -⟩ := hv3
  simp only [Act.put, List.setIfInBounds_toArray, List.set_cons_succ, List.set_cons_zero, Nat.reduceAdd]
  refine wM_val ?ua4 rfl rfl Ext.refl (fun w' hD => ?ha4) (fun pha4 => ?na4)
  case ha4 =>
    obtain ⟨d0, d1, d2, d3⟩ := FX.out _ hD.1
    go_simp; rfl
  simp only [Act.put, List.setIfInBounds_toArray, List.set_cons_succ, List.set_cons_zero, Nat.reduceAdd]
  refine wM_val ?ua5 rfl rfl Ext.refl (fun w' hD => ?ha5) (fun pha5 => ?na5)
  case ha5 =>
    obtain ⟨d0, d1, d2, d3⟩ := FX.out _ hD.1
    go_simp; rfl
  simp only [Act.put, List.setIfInBounds_toArray, List.set_cons_succ, List.set_cons_zero, Nat.reduceAdd]
  refine wM_nil ?_
  intro w9 hw9 hF9
  obtain ⟨-, A7, c7, e7, hAL⟩ := hF9 1
  cases e7
  obtain ⟨-, A8, c8, e8, hWH⟩ := hF9 3
  cases e8
  clear hF9
  have hmk1 := HMK1.out
  have hmk2 := HMK2.out
  have FX : Hid (∀ w', Ext W0 w' → w'.cell? ⟨w.heap.size, 0, none⟩ = some (.int .i64 (n : Int))) := fun w' h => by rw [← HN.out]; exact (FX.out w' h).1
  have q0 := FX.out w9 hw9
  go_wp2
  clear q0
  refine wp_region_shut Ext (fun w' => Ext w9 w') (fun | 2 => some (fun v w' => ∃ B, v = .slice (some ⟨B, 0, none⟩) n n ∧ w9.heap.size ≤ B ∧ Irow w' B (rl n fun _ => 0)) | 5 => some (fun v w' => ∃ B, v = .slice (some ⟨B, 0, none⟩) n n ∧ w9.heap.size ≤ B ∧ Brow w' B (rl n fun _ => false)) | _ => none) (by kernel_rfl) (by kernel_rfl) (fun _ _ h k => h.trans k) ?hT2 (Ext.drew (Ext.refl w9)) ?_
  case hT2 =>
    intro i R hR
    match i, hR with
    | 2, hR => cases hR; exact fun _ _ _ ⟨B, e, h1, h⟩ k => ⟨B, e, h1, h.ext k⟩
    | 5, hR => cases hR; exact fun _ _ _ ⟨B, e, h1, h⟩ k => ⟨B, e, h1, h.ext k⟩
  refine wM_val ?ub0 rfl rfl Ext.refl (fun w' hD => ?hb0) (fun phb0 => ?nb0)
  case hb0 =>
    have d0 := FX.out _ (hw9.trans hD.1)
    go_simp; rfl
  simp only [Act.put, List.setIfInBounds_toArray, List.set_cons_succ, List.set_cons_zero, Nat.reduceAdd]
  refine wM_val ?ub1 rfl rfl Ext.refl (fun w' hD => ?hb1) (fun phb1 => ?nb1)
  case hb1 =>
    have d0 := FX.out _ (hw9.trans hD.1)
    go_simp; rfl
  simp only [Act.put, List.setIfInBounds_toArray, List.set_cons_succ, List.set_cons_zero, Nat.reduceAdd]
  refine wM_op _ rfl rfl (opens_val (fun w' hD => ?hb2)) (fun vb2 hvb2 => ?nb2)
  case hb2 =>
    refine ⟨.slice (some ⟨w'.heap.size, 0, none⟩) n n, w'.alloc (.cells (madeCells #[.int .i64 0] n) 3), ?_, Ext.alloc (Ext.refl _) _, w'.heap.size, rfl, hD.1.size, ?_⟩
    · go_simp
    · rw [rl_const, made_row]; exact World.alloc_heap_new _ _
  obtain ⟨_, -, -, B1, rfl, -⟩ := hvb2
  simp only [Act.put, List.setIfInBounds_toArray, List.set_cons_succ, List.set_cons_zero, Nat.reduceAdd]
  refine wM_val ?ub3 rfl rfl Ext.refl (fun w' hD => ?hb3) (fun phb3 => ?nb3)
  case hb3 =>
    have d0 := FX.out _ (hw9.trans hD.1)
    go_simp; rfl
  simp only [Act.put, List.setIfInBounds_toArray, List.set_cons_succ, List.set_cons_zero, Nat.reduceAdd]
  refine wM_val ?ub4 rfl rfl Ext.refl (fun w' hD => ?hb4) (fun phb4 => ?nb4)
  case hb4 =>
    have d0 := FX.out _ (hw9.trans hD.1)
    go_simp; rfl
  simp only [Act.put, List.setIfInBounds_toArray, List.set_cons_succ, List.set_cons_zero, Nat.reduceAdd]
  refine wM_op _ rfl rfl (opens_val (fun w' hD => ?hb5)) (fun vb5 hvb5 => ?nb5)
  case hb5 =>
    refine ⟨.slice (some ⟨w'.heap.size, 0, none⟩) n n, w'.alloc (.cells (madeCells #[.bool false] n) 4), ?_, Ext.alloc (Ext.refl _) _, w'.heap.size, rfl, hD.1.size, ?_⟩
    · go_simp
    · rw [rl_const, made_brow]; exact World.alloc_heap_new _ _
  obtain ⟨_, -, -, B2, rfl, -⟩ := hvb5
  simp only [Act.put, List.setIfInBounds_toArray, List.set_cons_succ, List.set_cons_zero, Nat.reduceAdd]
  refine wM_val ?ub6 rfl rfl Ext.refl (fun w' hD => ?hb6) (fun phb6 => ?nb6)
  case hb6 =>
    have d0 := FX.out _ (hw9.trans hD.1)
    go_simp; rfl
  simp only [Act.put, List.setIfInBounds_toArray, List.set_cons_succ, List.set_cons_zero, Nat.reduceAdd]
  refine wM_val ?ub7 rfl rfl Ext.refl (fun w' hD => ?hb7) (fun phb7 => ?nb7)
  case hb7 =>
    have d0 := FX.out _ (hw9.trans hD.1)
    go_simp; rfl
  simp only [Act.put, List.setIfInBounds_toArray, List.set_cons_succ, List.set_cons_zero, Nat.reduceAdd]
  refine wM_nil ?_
  intro w8 hw8 hF8
  obtain ⟨-, B1', e1, hb1, hI0⟩ := hF8 2
  obtain ⟨-, B2', e2, hb2, hJ0⟩ := hF8 5
  cases e1
  cases e2
  clear hF8 hmk1 hmk2
  have hgne : B1 ≠ B2 := brow_ne hI0 hJ0
  have hxw9 : Ext W0 w8 := hw9.trans hw8
  have q0 := FX.out w8 hxw9
  have qc := hJ0.at_ (rl_get _ han)
  have qf := hJ0.frozen a
  have han' : (a : Int) < (n : Int) := by omega
  go_wp2
  obtain ⟨W1, hW1⟩ : ∃ W1, w8.setCell ⟨B2, a, none⟩ (.bool true) = W1 := ⟨_, rfl⟩
  have hx1 : Ext w9 W1 := by rw [← hW1]; exact hw8.setCell (by simpa using hb2) _
  have hI1 : RV W1 B1 n (fun j => .int .i64 ((GS0 a).sm j)) := by rw [← hW1]; exact Irow.rv (f := (GS0 a).sm) (hI0.setne _ _ hgne)
  have hJ1 : RV W1 B2 n (fun j => .bool ((GS0 a).is j)) := by
    have h := hJ0.set a true
    rw [← rl_upd, hW1] at h
    have e : upd1 (fun _ : Nat => false) a true = (GS0 a).is := by funext x; unfold upd1 GS0; by_cases e : x = a <;> simp [e]
    rw [e] at h; exact h.rv
  rw [hW1]
  clear hW1 q0 qc qf hI0 hJ0 hxw9 hw8
  have hxW : Ext w W1 := hx0.trans (hw9.trans hx1)
  go_loopw [13] (fun i wr => ∃ (r : Nat) (s : GS), r ≤ n + 1 ∧ i = .int .i64 (r : Int) ∧ RV wr B1 n (fun j => .int .i64 (s.sm j)) ∧ RV wr B2 n (fun j => .bool (s.is j)) ∧ Ext w9 wr ∧ Hid (grun L (n + 1 - r) s = R) ∧ Hid (GLow (52 * (r : Int)) s)) (fun i _ => n + 1 - (intOf i).toNat)
  case atStart => exact ⟨0, GS0 a, by omega, rfl, hI1, hJ1, hx1, HR.out.symm, GLow.zero a⟩
  case round =>
    obtain ⟨r, s0, hr, rfl, hI, hJ, hx, HG, HL0⟩ := hrel
    have q0 := FX.out wr (hw9.trans hx)
    by_cases hlt : r ≤ n
    · have hlt' : (r : Int) ≤ (n : Int) := by omega
      obtain ⟨wo, rfl⟩ : ∃ wo : World, wo = wr := ⟨_, rfl⟩
      go_wp2
      clear q0
      go_loopw [14, 15] (fun l i wr => ∃ (k : Nat) (s : GS), k ≤ c.all.length ∧ i = .int .i64 (k : Int) ∧ l = .bool s.less ∧ RV wr B1 n (fun j => .int .i64 (s.sm j)) ∧ RV wr B2 n (fun j => .bool (s.is j)) ∧ Ext w9 wr ∧ Hid (gpassW (belT bel) s0.start (Z.take k) = s) ∧ Hid (GLow (52 * (r : Int) + k) s)) (fun _ i _ => c.all.length - (intOf i).toNat)
      case atStart => exact ⟨0, s0.start, Nat.zero_le _, rfl, rfl, hI, hJ, hx, rfl, by have h := HL0.out; unfold Hid; show GLow _ s0; simpa using h⟩
      case round =>
        obtain ⟨k, s, hk, rfl, rfl, hI, hJ, hx, HS, HL⟩ := hrel
        by_cases hltk : k < c.all.length
        · have hltk' : (k : Int) < (c.all.length : Int) := by omega
          obtain ⟨⟨f, t, m⟩, hbk⟩ := get_of_lt c.all k hltk
          obtain ⟨x, hxk, hzk⟩ := HZG.out k _ hbk
          have hbm := mem_of_get hbk
          obtain ⟨⟨f0, f8⟩, t0, t8⟩ := HEV.out _ hbm
          obtain ⟨_, _, m0, m1⟩ := HOK.out _ hbm
          simp only at f0 f8 t0 t8 m0 m1
          have hfe : f < (n : Int) := by rw [← HN.out]; exact f8
          have hte : t < (n : Int) := by rw [← HN.out]; exact t8
          clear f8 t8
          obtain ⟨fn, rfl⟩ : ∃ q : Nat, f = q := ⟨f.toNat, by omega⟩
          obtain ⟨tn, rfl⟩ : ∃ q : Nat, t = q := ⟨t.toNat, by omega⟩
          have hfn : fn < n := by omega
          have htn : tn < n := by omega
          have HSN : Hid (gpassW (belT bel) s0.start (Z.take (k + 1)) = gstepW (belT bel) s (⟨(fn : Int), (tn : Int), m⟩, x)) := by unfold Hid; rw [gpassW_next _ _ hzk, HS.out]
          have HLN : Hid (GLow (52 * (r : Int) + (k + 1 : Nat)) (gstepW (belT bel) s (⟨(fn : Int), (tn : Int), m⟩, x))) := by
            have h := HL.out.stepW (tf := belT bel) (p := (⟨(fn : Int), (tn : Int), m⟩, x)) (HOK.out _ hbm) (by omega)
            unfold Hid; rw [show 52 * (r : Int) + ((k + 1 : Nat) : Int) = 52 * (r : Int) + k + 1 by omega]; exact h
          have r1 := HL.out fn (by omega)
          have r2 := HL.out tn (by omega)
          obtain ⟨y, hy⟩ : ∃ y, s.sm fn = y := ⟨_, rfl⟩
          obtain ⟨z, hz⟩ : ∃ z, s.sm tn = z := ⟨_, rfl⟩
          rw [hy] at r1
          rw [hz] at r2
          have hwr : IntKind.i64.wrap (y + m) = y + m := IntWalk.i64_in _ ⟨by omega, by omega⟩
          obtain ⟨bb, ob, rfl, g0, g1, g2⟩ := (hAL.ext hx).at_ hbk
          obtain ⟨bw, ow, rfl, gw⟩ := (hWH.ext hx).at_ hxk
          have gi1 := (hI fn hfn).1
          have gi2 := (hI tn htn).1
          have gj1 := (hJ fn hfn).1
          have gj2 := (hJ tn htn).1
          simp only [hy] at gi1
          simp only [hz] at gi2
          have hwho := whoL_mem hxk
          have HBK : Hid (B1 < wr.heap.size ∧ B2 < wr.heap.size) := ⟨World.block_lt_of_cell? wr _ gi1, World.block_lt_of_cell? wr _ gj1⟩
          have HFF : Hid (fn ≠ tn) := by
            have h1 := HDIF.out _ hbm
            have h2 : ¬ (fn : Int) = (tn : Int) := by simpa using h1
            unfold Hid; omega
          have HY := hid hy
          have HZ := hid hz
          clear hbk hxk hzk hbm HS HL hy hz
          have hxo := Ext.alloc (Ext.refl wr) (.cells #[.int .i64 (fn : Int), .int .i64 (tn : Int), .int .i64 m] 114)
          have Fw : ∀ o, (wr.alloc o).cell? ⟨bw, ow + k, none⟩ = some (.int .i64 x) := fun o => (Ext.alloc (Ext.refl wr) o).cell gw
          have F1 : ∀ o, (wr.alloc o).cell? ⟨B1, fn, none⟩ = some (.int .i64 y) := fun o => (Ext.alloc (Ext.refl wr) o).cell gi1
          have F2 : ∀ o, (wr.alloc o).cell? ⟨B1, tn, none⟩ = some (.int .i64 z) := fun o => (Ext.alloc (Ext.refl wr) o).cell gi2
          have F3 : ∀ o, (wr.alloc o).cell? ⟨B2, fn, none⟩ = some (.bool (s.is fn)) := fun o => (Ext.alloc (Ext.refl wr) o).cell gj1
          have F4 : ∀ o, (wr.alloc o).cell? ⟨B2, tn, none⟩ = some (.bool (s.is tn)) := fun o => (Ext.alloc (Ext.refl wr) o).cell gj2
          have hI' := hI.ext hxo
          have hJ' := hJ.ext hxo
          have hx' := hx.trans hxo
          have hfn' : (fn : Int) < (n : Int) := by omega
          have htn' : (tn : Int) < (n : Int) := by omega
          clear gw gi1 gi2 gj1 gj2 hI hJ
          rcases hwho with rfl | ⟨cx, hcx, rfl⟩
          · have HDO : Hid (gstepW (belT bel) s (⟨(fn : Int), (tn : Int), m⟩, -1) = gstep s ⟨(fn : Int), (tn : Int), m⟩) := gstepW_do (.inl (by omega))
            cases his : s.is fn
            · have HST : Hid (gstep s ⟨(fn : Int), (tn : Int), m⟩ = s) := gstep_no1 his
              have HS1 : Hid (gpassW (belT bel) s0.start (Z.take (k + 1)) = s) := by unfold Hid; rw [HSN.out, HDO.out, HST.out]
              have HL1 : Hid (GLow (52 * (r : Int) + (k + 1 : Nat)) s) := by have h := HLN.out; rw [HDO.out, HST.out] at h; exact h
              clear HSN HLN HDO HST
              rw [his] at F3
              go_wp2
              go_roundw
              case rel => first | exact ⟨k + 1, s, by omega, by go_num, rfl, hI', hJ', hx', HS1, HL1⟩ | exact ⟨k + 1, by omega, by omega, s, rfl, hI', hJ', HS1, HL1⟩
              case measure => simp [intOf]; omega
            · rw [his] at F3
              go_wp2
              cases hit : s.is tn
              · have HST : Hid (gstep s ⟨(fn : Int), (tn : Int), m⟩ = ⟨upd1 s.sm tn (s.sm fn + m), upd1 s.is tn true, true⟩) := gstep_yes his (.inl hit)
                rw [hit] at F4
                obtain ⟨Wd, hWd⟩ : ∃ Wd, wr.alloc (.cells #[.int .i64 (fn : Int), .int .i64 (tn : Int), .int .i64 m] 114) = Wd := ⟨_, rfl⟩
                have FO : Hid (∀ w', Ext Wd w' → w'.cell? ⟨wr.heap.size, 0, none⟩ = some (.int .i64 (fn : Int)) ∧ w'.cell? ⟨wr.heap.size, 1, none⟩ = some (.int .i64 (tn : Int)) ∧ w'.cell? ⟨wr.heap.size, 2, none⟩ = some (.int .i64 m) ∧ w'.cell? ⟨B1, fn, none⟩ = some (.int .i64 y) ∧ w'.cell? ⟨B1, tn, none⟩ = some (.int .i64 z) ∧ w'.cell? ⟨B2, tn, none⟩ = some (.bool false)) := fun w' h => ⟨h.cell (by rw [← hWd]; simp [go_sem]), h.cell (by rw [← hWd]; simp [go_sem]), h.cell (by rw [← hWd]; simp [go_sem]), h.cell (by rw [← hWd]; exact F1 _), h.cell (by rw [← hWd]; exact F2 _), h.cell (by rw [← hWd]; exact F4 _)⟩
                rw [hWd] at hI' hJ' hx' ⊢
                clear hWd F1 F2 F3 F4 Fw
                try clear Fq
                refine wp_region_shut Ext (fun w' => Ext Wd w') (fun _ => none) (by kernel_rfl) (by kernel_rfl) (fun _ _ h k => h.trans k) (fun i R h => by cases h) (Ext.drew (Ext.refl Wd)) ?_
                refine wM_val ?upr0 rfl rfl Ext.refl (fun w' hD => ?hpr0) (fun phpr0 => ?npr0)
                case hpr0 =>
                  obtain ⟨d0, d1, d2, d3, d4, d5⟩ := FO.out _ hD.1
                  go_simp; rfl
                simp only [Act.put, List.setIfInBounds_toArray, List.set_cons_succ, List.set_cons_zero, Nat.reduceAdd]
                refine wM_val ?upr1 rfl rfl Ext.refl (fun w' hD => ?hpr1) (fun phpr1 => ?npr1)
                case hpr1 =>
                  obtain ⟨d0, d1, d2, d3, d4, d5⟩ := FO.out _ hD.1
                  go_simp; rfl
                simp only [Act.put, List.setIfInBounds_toArray, List.set_cons_succ, List.set_cons_zero, Nat.reduceAdd]
                refine wM_val ?upr2 rfl rfl Ext.refl (fun w' hD => ?hpr2) (fun phpr2 => ?npr2)
                case hpr2 =>
                  obtain ⟨d0, d1, d2, d3, d4, d5⟩ := FO.out _ hD.1
                  go_simp; rfl
                simp only [Act.put, List.setIfInBounds_toArray, List.set_cons_succ, List.set_cons_zero, Nat.reduceAdd]
                refine wM_val ?upr3 rfl rfl Ext.refl (fun w' hD => ?hpr3) (fun phpr3 => ?npr3)
                case hpr3 =>
                  obtain ⟨d0, d1, d2, d3, d4, d5⟩ := FO.out _ hD.1
                  go_simp; rfl
                simp only [Act.put, List.setIfInBounds_toArray, List.set_cons_succ, List.set_cons_zero, Nat.reduceAdd]
                refine wM_val ?upr4 rfl rfl Ext.refl (fun w' hD => ?hpr4) (fun phpr4 => ?npr4)
                case hpr4 =>
                  obtain ⟨d0, d1, d2, d3, d4, d5⟩ := FO.out _ hD.1
                  go_simp; rfl
                simp only [Act.put, List.setIfInBounds_toArray, List.set_cons_succ, List.set_cons_zero, Nat.reduceAdd]
                refine wM_val ?upr5 rfl rfl Ext.refl (fun w' hD => ?hpr5) (fun phpr5 => ?npr5)
                case hpr5 =>
                  obtain ⟨d0, d1, d2, d3, d4, d5⟩ := FO.out _ hD.1
                  go_simp; rfl
                simp only [Act.put, List.setIfInBounds_toArray, List.set_cons_succ, List.set_cons_zero, Nat.reduceAdd]
                refine wM_val ?upr6 rfl rfl Ext.refl (fun w' hD => ?hpr6) (fun phpr6 => ?npr6)
                case hpr6 =>
                  obtain ⟨d0, d1, d2, d3, d4, d5⟩ := FO.out _ hD.1
                  go_simp; rfl
                simp only [Act.put, List.setIfInBounds_toArray, List.set_cons_succ, List.set_cons_zero, Nat.reduceAdd]
                refine wM_skip rfl ?_
                simp only [Act.put, List.setIfInBounds_toArray, List.set_cons_succ, List.set_cons_zero, Nat.reduceAdd]
                refine wM_skip rfl ?_
                simp only [Act.put, List.setIfInBounds_toArray, List.set_cons_succ, List.set_cons_zero, Nat.reduceAdd]
                refine wM_skip rfl ?_
                simp only [Act.put, List.setIfInBounds_toArray, List.set_cons_succ, List.set_cons_zero, Nat.reduceAdd]
                refine wM_skip rfl ?_
                simp only [Act.put, List.setIfInBounds_toArray, List.set_cons_succ, List.set_cons_zero, Nat.reduceAdd]
                refine wM_skip rfl ?_
                simp only [Act.put, List.setIfInBounds_toArray, List.set_cons_succ, List.set_cons_zero, Nat.reduceAdd]
                refine wM_skip rfl ?_
                simp only [Act.put, List.setIfInBounds_toArray, List.set_cons_succ, List.set_cons_zero, Nat.reduceAdd]
                refine wM_skip rfl ?_
                simp only [Act.put, List.setIfInBounds_toArray, List.set_cons_succ, List.set_cons_zero, Nat.reduceAdd]
                refine wM_skip rfl ?_
                simp only [Act.put, List.setIfInBounds_toArray, List.set_cons_succ, List.set_cons_zero, Nat.reduceAdd]
                refine wM_skip rfl ?_
                simp only [Act.put, List.setIfInBounds_toArray, List.set_cons_succ, List.set_cons_zero, Nat.reduceAdd]
                refine wM_skip rfl ?_
                simp only [Act.put, List.setIfInBounds_toArray, List.set_cons_succ, List.set_cons_zero, Nat.reduceAdd]
                refine wM_skip rfl ?_
                simp only [Act.put, List.setIfInBounds_toArray, List.set_cons_succ, List.set_cons_zero, Nat.reduceAdd]
                refine wM_skip rfl ?_
                simp only [Act.put, List.setIfInBounds_toArray, List.set_cons_succ, List.set_cons_zero, Nat.reduceAdd]
                refine wM_skip rfl ?_
                simp only [Act.put, List.setIfInBounds_toArray, List.set_cons_succ, List.set_cons_zero, Nat.reduceAdd]
                refine wM_skip rfl ?_
                simp only [Act.put, List.setIfInBounds_toArray, List.set_cons_succ, List.set_cons_zero, Nat.reduceAdd]
                refine wM_val ?upr21 rfl rfl Ext.refl (fun w' hD => ?hpr21) (fun phpr21 => ?npr21)
                case hpr21 =>
                  obtain ⟨d0, d1, d2, d3, d4, d5⟩ := FO.out _ hD.1
                  go_simp; rfl
                simp only [Act.put, List.setIfInBounds_toArray, List.set_cons_succ, List.set_cons_zero, Nat.reduceAdd]
                refine wM_nil ?_
                intro w6 hw6 hF6
                have hI6 := hI'.ext hw6
                have hJ6 := hJ'.ext hw6
                have hx6 := hx'.trans hw6
                clear hI' hJ' hx'
                have HS1 : Hid (gpassW (belT bel) s0.start (Z.take (k + 1)) = ⟨upd1 s.sm tn (y + m), upd1 s.is tn true, true⟩) := by unfold Hid; rw [HSN.out, HDO.out, HST.out, HY.out]
                have HL1 : Hid (GLow (52 * (r : Int) + (k + 1 : Nat)) ⟨upd1 s.sm tn (y + m), upd1 s.is tn true, true⟩) := by have h := HLN.out; rw [HDO.out, HST.out, HY.out] at h; exact h
                clear HSN HLN HDO HST
                obtain ⟨c0, c1, c2, c3, -, -⟩ := FO.out _ hw6
                obtain ⟨i1c, i1f⟩ := hI6 tn htn
                obtain ⟨j1c, j1f⟩ := hJ6 tn htn
                have hB1w : B1 < wr.heap.size := by have := HBK.out.1; omega
                have hB2w : B2 < wr.heap.size := by have := HBK.out.2; omega
                have hff : fn ≠ tn := HFF.out
                have hpp : (⟨B1, tn, none⟩ : Addr) ≠ ⟨B2, tn, none⟩ := fun e => hgne (by injection e)
                have FS : Hid (∀ w', St2 w9.heap.size ⟨B1, tn, none⟩ (.int .i64 (y + m)) ⟨B2, tn, none⟩ (.bool true) w6 w' → w'.cell? ⟨wr.heap.size, 0, none⟩ = some (.int .i64 (fn : Int)) ∧ w'.cell? ⟨wr.heap.size, 1, none⟩ = some (.int .i64 (tn : Int)) ∧ w'.cell? ⟨wr.heap.size, 2, none⟩ = some (.int .i64 m) ∧ w'.cell? ⟨B1, fn, none⟩ = some (.int .i64 y) ∧
                    (w'.cell? ⟨B1, tn, none⟩).isSome = true ∧ (w'.cell? ⟨B2, tn, none⟩).isSome = true ∧ w'.frozen? ⟨B1, tn, none⟩ = false ∧ w'.frozen? ⟨B2, tn, none⟩ = false) := fun w' h =>
                  ⟨h.cell _ _ (fun e => by injection e; omega) (fun e => by injection e; omega) c0, h.cell _ _ (fun e => by injection e; omega) (fun e => by injection e; omega) c1, h.cell _ _ (fun e => by injection e; omega) (fun e => by injection e; omega) c2,
                    h.cell _ _ (fun e => by injection e; omega) (fun e => by injection e; omega) c3, h.some1 (by rw [i1c]; rfl), h.some2 (by rw [j1c]; rfl), (h.fz _ (by rw [i1c]; rfl)).trans i1f, (h.fz _ (by rw [j1c]; rfl)).trans j1f⟩
                clear c0 c1 c2 c3 i1c i1f j1c j1f FO
                go_wp2
                refine wp_region_shut (St2 w9.heap.size ⟨B1, tn, none⟩ (.int .i64 (y + m)) ⟨B2, tn, none⟩ (.bool true)) (fun w' => St2 w9.heap.size ⟨B1, tn, none⟩ (.int .i64 (y + m)) ⟨B2, tn, none⟩ (.bool true) w6 w') (fun | 15 => some (fun v W => v = undef ∧ W.cell? ⟨B1, tn, none⟩ = some (.int .i64 (y + m))) | 17 => some (fun v W => v = undef ∧ W.cell? ⟨B2, tn, none⟩ = some (.bool true)) | _ => none) (by kernel_rfl) (by kernel_rfl) (fun _ _ h k => h.trans k) ?hTpa ⟨(Below.refl _ _).drew, Nat.le_refl _, fun _ _ _ _ h => h, fun h => h, fun h => h, fun _ _ => rfl, fun h => h, fun h => h⟩ ?_
                case hTpa =>
                  intro i R hR
                  match i, hR with
                  | 15, hR => cases hR; exact fun _ _ _ h k => ⟨h.1, k.keep1 h.2⟩
                  | 17, hR => cases hR; exact fun _ _ _ h k => ⟨h.1, k.keep2 h.2⟩
                refine wM_val ?upa0 rfl rfl St2.refl (fun w' hD => ?hpa0) (fun phpa0 => ?npa0)
                case hpa0 =>
                  obtain ⟨e0, e1, e2, e3, e4, e5, e6, e7⟩ := FS.out _ hD.1
                  go_simp; rfl
                simp only [Act.put, List.setIfInBounds_toArray, List.set_cons_succ, List.set_cons_zero, Nat.reduceAdd]
                refine wM_val ?upa1 rfl rfl St2.refl (fun w' hD => ?hpa1) (fun phpa1 => ?npa1)
                case hpa1 =>
                  obtain ⟨e0, e1, e2, e3, e4, e5, e6, e7⟩ := FS.out _ hD.1
                  go_simp; rfl
                simp only [Act.put, List.setIfInBounds_toArray, List.set_cons_succ, List.set_cons_zero, Nat.reduceAdd]
                refine wM_val ?upa2 rfl rfl St2.refl (fun w' hD => ?hpa2) (fun phpa2 => ?npa2)
                case hpa2 =>
                  obtain ⟨e0, e1, e2, e3, e4, e5, e6, e7⟩ := FS.out _ hD.1
                  go_simp; rfl
                simp only [Act.put, List.setIfInBounds_toArray, List.set_cons_succ, List.set_cons_zero, Nat.reduceAdd]
                refine wM_val ?upa3 rfl rfl St2.refl (fun w' hD => ?hpa3) (fun phpa3 => ?npa3)
                case hpa3 =>
                  obtain ⟨e0, e1, e2, e3, e4, e5, e6, e7⟩ := FS.out _ hD.1
                  go_simp; rfl
                simp only [Act.put, List.setIfInBounds_toArray, List.set_cons_succ, List.set_cons_zero, Nat.reduceAdd]
                refine wM_val ?upa4 rfl rfl St2.refl (fun w' hD => ?hpa4) (fun phpa4 => ?npa4)
                case hpa4 =>
                  obtain ⟨e0, e1, e2, e3, e4, e5, e6, e7⟩ := FS.out _ hD.1
                  go_simp; rfl
                simp only [Act.put, List.setIfInBounds_toArray, List.set_cons_succ, List.set_cons_zero, Nat.reduceAdd]
                refine wM_val ?upa5 rfl rfl St2.refl (fun w' hD => ?hpa5) (fun phpa5 => ?npa5)
                case hpa5 =>
                  obtain ⟨e0, e1, e2, e3, e4, e5, e6, e7⟩ := FS.out _ hD.1
                  go_simp; rfl
                simp only [Act.put, List.setIfInBounds_toArray, List.set_cons_succ, List.set_cons_zero, Nat.reduceAdd]
                refine wM_val ?upa6 rfl rfl St2.refl (fun w' hD => ?hpa6) (fun phpa6 => ?npa6)
                case hpa6 =>
                  obtain ⟨e0, e1, e2, e3, e4, e5, e6, e7⟩ := FS.out _ hD.1
                  go_simp; rfl
                simp only [Act.put, List.setIfInBounds_toArray, List.set_cons_succ, List.set_cons_zero, Nat.reduceAdd]
                refine wM_val ?upa7 rfl rfl St2.refl (fun w' hD => ?hpa7) (fun phpa7 => ?npa7)
                case hpa7 =>
                  obtain ⟨e0, e1, e2, e3, e4, e5, e6, e7⟩ := FS.out _ hD.1
                  go_simp; rfl
                simp only [Act.put, List.setIfInBounds_toArray, List.set_cons_succ, List.set_cons_zero, Nat.reduceAdd]
                refine wM_val ?upa8 rfl rfl St2.refl (fun w' hD => ?hpa8) (fun phpa8 => ?npa8)
                case hpa8 =>
                  obtain ⟨e0, e1, e2, e3, e4, e5, e6, e7⟩ := FS.out _ hD.1
                  go_simp; rfl
                simp only [Act.put, List.setIfInBounds_toArray, List.set_cons_succ, List.set_cons_zero, Nat.reduceAdd]
                refine wM_val ?upa9 rfl rfl St2.refl (fun w' hD => ?hpa9) (fun phpa9 => ?npa9)
                case hpa9 =>
                  obtain ⟨e0, e1, e2, e3, e4, e5, e6, e7⟩ := FS.out _ hD.1
                  go_simp; rfl
                simp only [Act.put, List.setIfInBounds_toArray, List.set_cons_succ, List.set_cons_zero, Nat.reduceAdd]
                refine wM_val ?upa10 rfl rfl St2.refl (fun w' hD => ?hpa10) (fun phpa10 => ?npa10)
                case hpa10 =>
                  obtain ⟨e0, e1, e2, e3, e4, e5, e6, e7⟩ := FS.out _ hD.1
                  go_simp; rfl
                simp only [Act.put, List.setIfInBounds_toArray, List.set_cons_succ, List.set_cons_zero, Nat.reduceAdd]
                refine wM_val ?upa11 rfl rfl St2.refl (fun w' hD => ?hpa11) (fun phpa11 => ?npa11)
                case hpa11 =>
                  obtain ⟨e0, e1, e2, e3, e4, e5, e6, e7⟩ := FS.out _ hD.1
                  go_simp; rfl
                simp only [Act.put, List.setIfInBounds_toArray, List.set_cons_succ, List.set_cons_zero, Nat.reduceAdd]
                refine wM_val ?upa12 rfl rfl St2.refl (fun w' hD => ?hpa12) (fun phpa12 => ?npa12)
                case hpa12 =>
                  obtain ⟨e0, e1, e2, e3, e4, e5, e6, e7⟩ := FS.out _ hD.1
                  go_simp; rfl
                simp only [Act.put, List.setIfInBounds_toArray, List.set_cons_succ, List.set_cons_zero, Nat.reduceAdd]
                refine wM_val ?upa13 rfl rfl St2.refl (fun w' hD => ?hpa13) (fun phpa13 => ?npa13)
                case hpa13 =>
                  obtain ⟨e0, e1, e2, e3, e4, e5, e6, e7⟩ := FS.out _ hD.1
                  go_simp; rfl
                simp only [Act.put, List.setIfInBounds_toArray, List.set_cons_succ, List.set_cons_zero, Nat.reduceAdd]
                refine wM_val ?upa14 rfl rfl St2.refl (fun w' hD => ?hpa14) (fun phpa14 => ?npa14)
                case hpa14 =>
                  obtain ⟨e0, e1, e2, e3, e4, e5, e6, e7⟩ := FS.out _ hD.1
                  go_simp; rfl
                simp only [Act.put, List.setIfInBounds_toArray, List.set_cons_succ, List.set_cons_zero, Nat.reduceAdd]
                refine wM_op _ rfl rfl (opens_skip (fun w' hD => ?rpa15)) (fun v15 hv15 => ?mpa15)
                case rpa15 =>
                  obtain ⟨e0, e1, e2, e3, e4, e5, e6, e7⟩ := FS.out w' hD.1
                  obtain ⟨u1, hu1⟩ := Option.isSome_iff_exists.1 e4
                  refine ⟨w'.setCell ⟨B1, tn, none⟩ (.int .i64 (y + m)), ?_, St2.store1 e4 (by simpa using hb1) hpp, rfl, World.cell?_setCell_same' _ _ _ e4⟩
                  go_simp
                obtain ⟨_, _, _, rfl, _⟩ := hv15
                simp only [Act.put, List.setIfInBounds_toArray, List.set_cons_succ, List.set_cons_zero, Nat.reduceAdd]
                refine wM_val ?upa16 rfl rfl St2.refl (fun w' hD => ?hpa16) (fun phpa16 => ?npa16)
                case hpa16 =>
                  obtain ⟨e0, e1, e2, e3, e4, e5, e6, e7⟩ := FS.out _ hD.1
                  go_simp; rfl
                simp only [Act.put, List.setIfInBounds_toArray, List.set_cons_succ, List.set_cons_zero, Nat.reduceAdd]
                refine wM_op _ rfl rfl (opens_skip (fun w' hD => ?rpa17)) (fun v17 hv17 => ?mpa17)
                case rpa17 =>
                  obtain ⟨e0, e1, e2, e3, e4, e5, e6, e7⟩ := FS.out w' hD.1
                  obtain ⟨u1, hu1⟩ := Option.isSome_iff_exists.1 e5
                  refine ⟨w'.setCell ⟨B2, tn, none⟩ (.bool true), ?_, St2.store2 e5 (by simpa using hb2) hpp, rfl, World.cell?_setCell_same' _ _ _ e5⟩
                  go_simp
                obtain ⟨_, _, _, rfl, _⟩ := hv17
                simp only [Act.put, List.setIfInBounds_toArray, List.set_cons_succ, List.set_cons_zero, Nat.reduceAdd]
                refine wM_val ?upa18 rfl rfl St2.refl (fun w' hD => ?hpa18) (fun phpa18 => ?npa18)
                case hpa18 =>
                  obtain ⟨e0, e1, e2, e3, e4, e5, e6, e7⟩ := FS.out _ hD.1
                  go_simp; rfl
                simp only [Act.put, List.setIfInBounds_toArray, List.set_cons_succ, List.set_cons_zero, Nat.reduceAdd]
                refine wM_nil ?_
                intro w7 hw7 hF7
                have hIf : Hid (RV w7 B1 n (fun j => .int .i64 (upd1 s.sm tn (y + m) j))) := (hI6.st1 hw7 (Ne.symm hgne) (hF7 15).2.2).congr fun j _ => by unfold upd1; split <;> rfl
                have hJf : Hid (RV w7 B2 n (fun j => .bool (upd1 s.is tn true j))) := (hJ6.st2 hw7 hgne (hF7 17).2.2).congr fun j _ => by unfold upd1; split <;> rfl
                have hxf : Hid (Ext w9 w7) := Below.trans hx6 hw7.below
                clear hI6 hJ6 hx6 hF7
                go_wp2
                go_roundw
                case rel => first | exact ⟨k + 1, ⟨upd1 s.sm tn (y + m), upd1 s.is tn true, true⟩, by omega, by go_num, rfl, hIf.out, hJf.out, hxf.out, HS1, HL1⟩ | exact ⟨k + 1, by omega, by omega, ⟨upd1 s.sm tn (y + m), upd1 s.is tn true, true⟩, rfl, hIf.out, hJf.out, hxf.out, HS1, HL1⟩
                case measure => simp [intOf]; omega
              · rw [hit] at F4
                obtain ⟨Wd, hWd⟩ : ∃ Wd, wr.alloc (.cells #[.int .i64 (fn : Int), .int .i64 (tn : Int), .int .i64 m] 114) = Wd := ⟨_, rfl⟩
                have FO : Hid (∀ w', Ext Wd w' → w'.cell? ⟨wr.heap.size, 0, none⟩ = some (.int .i64 (fn : Int)) ∧ w'.cell? ⟨wr.heap.size, 1, none⟩ = some (.int .i64 (tn : Int)) ∧ w'.cell? ⟨wr.heap.size, 2, none⟩ = some (.int .i64 m) ∧ w'.cell? ⟨B1, fn, none⟩ = some (.int .i64 y) ∧ w'.cell? ⟨B1, tn, none⟩ = some (.int .i64 z) ∧ w'.cell? ⟨B2, tn, none⟩ = some (.bool true)) := fun w' h => ⟨h.cell (by rw [← hWd]; simp [go_sem]), h.cell (by rw [← hWd]; simp [go_sem]), h.cell (by rw [← hWd]; simp [go_sem]), h.cell (by rw [← hWd]; exact F1 _), h.cell (by rw [← hWd]; exact F2 _), h.cell (by rw [← hWd]; exact F4 _)⟩
                rw [hWd] at hI' hJ' hx' ⊢
                clear hWd F1 F2 F3 F4 Fw
                try clear Fq
                refine wp_region_shut Ext (fun w' => Ext Wd w') (fun _ => none) (by kernel_rfl) (by kernel_rfl) (fun _ _ h k => h.trans k) (fun i R h => by cases h) (Ext.drew (Ext.refl Wd)) ?_
                refine wM_val ?ups0 rfl rfl Ext.refl (fun w' hD => ?hps0) (fun phps0 => ?nps0)
                case hps0 =>
                  obtain ⟨d0, d1, d2, d3, d4, d5⟩ := FO.out _ hD.1
                  go_simp; rfl
                simp only [Act.put, List.setIfInBounds_toArray, List.set_cons_succ, List.set_cons_zero, Nat.reduceAdd]
                refine wM_val ?ups1 rfl rfl Ext.refl (fun w' hD => ?hps1) (fun phps1 => ?nps1)
                case hps1 =>
                  obtain ⟨d0, d1, d2, d3, d4, d5⟩ := FO.out _ hD.1
                  go_simp; rfl
                simp only [Act.put, List.setIfInBounds_toArray, List.set_cons_succ, List.set_cons_zero, Nat.reduceAdd]
                refine wM_val ?ups2 rfl rfl Ext.refl (fun w' hD => ?hps2) (fun phps2 => ?nps2)
                case hps2 =>
                  obtain ⟨d0, d1, d2, d3, d4, d5⟩ := FO.out _ hD.1
                  go_simp; rfl
                simp only [Act.put, List.setIfInBounds_toArray, List.set_cons_succ, List.set_cons_zero, Nat.reduceAdd]
                refine wM_val ?ups3 rfl rfl Ext.refl (fun w' hD => ?hps3) (fun phps3 => ?nps3)
                case hps3 =>
                  obtain ⟨d0, d1, d2, d3, d4, d5⟩ := FO.out _ hD.1
                  go_simp; rfl
                simp only [Act.put, List.setIfInBounds_toArray, List.set_cons_succ, List.set_cons_zero, Nat.reduceAdd]
                refine wM_val ?ups4 rfl rfl Ext.refl (fun w' hD => ?hps4) (fun phps4 => ?nps4)
                case hps4 =>
                  obtain ⟨d0, d1, d2, d3, d4, d5⟩ := FO.out _ hD.1
                  go_simp; rfl
                simp only [Act.put, List.setIfInBounds_toArray, List.set_cons_succ, List.set_cons_zero, Nat.reduceAdd]
                refine wM_val ?ups5 rfl rfl Ext.refl (fun w' hD => ?hps5) (fun phps5 => ?nps5)
                case hps5 =>
                  obtain ⟨d0, d1, d2, d3, d4, d5⟩ := FO.out _ hD.1
                  go_simp; rfl
                simp only [Act.put, List.setIfInBounds_toArray, List.set_cons_succ, List.set_cons_zero, Nat.reduceAdd]
                refine wM_val ?ups6 rfl rfl Ext.refl (fun w' hD => ?hps6) (fun phps6 => ?nps6)
                case hps6 =>
                  obtain ⟨d0, d1, d2, d3, d4, d5⟩ := FO.out _ hD.1
                  go_simp; rfl
                simp only [Act.put, List.setIfInBounds_toArray, List.set_cons_succ, List.set_cons_zero, Nat.reduceAdd]
                refine wM_val ?ups7 rfl rfl Ext.refl (fun w' hD => ?hps7) (fun phps7 => ?nps7)
                case hps7 =>
                  obtain ⟨d0, d1, d2, d3, d4, d5⟩ := FO.out _ hD.1
                  go_simp; rfl
                simp only [Act.put, List.setIfInBounds_toArray, List.set_cons_succ, List.set_cons_zero, Nat.reduceAdd]
                refine wM_val ?ups8 rfl rfl Ext.refl (fun w' hD => ?hps8) (fun phps8 => ?nps8)
                case hps8 =>
                  obtain ⟨d0, d1, d2, d3, d4, d5⟩ := FO.out _ hD.1
                  go_simp; rfl
                simp only [Act.put, List.setIfInBounds_toArray, List.set_cons_succ, List.set_cons_zero, Nat.reduceAdd]
                refine wM_val ?ups9 rfl rfl Ext.refl (fun w' hD => ?hps9) (fun phps9 => ?nps9)
                case hps9 =>
                  obtain ⟨d0, d1, d2, d3, d4, d5⟩ := FO.out _ hD.1
                  go_simp; rfl
                simp only [Act.put, List.setIfInBounds_toArray, List.set_cons_succ, List.set_cons_zero, Nat.reduceAdd]
                refine wM_val ?ups10 rfl rfl Ext.refl (fun w' hD => ?hps10) (fun phps10 => ?nps10)
                case hps10 =>
                  obtain ⟨d0, d1, d2, d3, d4, d5⟩ := FO.out _ hD.1
                  go_simp; rfl
                simp only [Act.put, List.setIfInBounds_toArray, List.set_cons_succ, List.set_cons_zero, Nat.reduceAdd]
                refine wM_val ?ups11 rfl rfl Ext.refl (fun w' hD => ?hps11) (fun phps11 => ?nps11)
                case hps11 =>
                  obtain ⟨d0, d1, d2, d3, d4, d5⟩ := FO.out _ hD.1
                  go_simp; rfl
                simp only [Act.put, List.setIfInBounds_toArray, List.set_cons_succ, List.set_cons_zero, Nat.reduceAdd]
                refine wM_val ?ups12 rfl rfl Ext.refl (fun w' hD => ?hps12) (fun phps12 => ?nps12)
                case hps12 =>
                  obtain ⟨d0, d1, d2, d3, d4, d5⟩ := FO.out _ hD.1
                  go_simp; rfl
                simp only [Act.put, List.setIfInBounds_toArray, List.set_cons_succ, List.set_cons_zero, Nat.reduceAdd]
                refine wM_val ?ups13 rfl rfl Ext.refl (fun w' hD => ?hps13) (fun phps13 => ?nps13)
                case hps13 =>
                  obtain ⟨d0, d1, d2, d3, d4, d5⟩ := FO.out _ hD.1
                  go_simp; rfl
                simp only [Act.put, List.setIfInBounds_toArray, List.set_cons_succ, List.set_cons_zero, Nat.reduceAdd]
                refine wM_val ?ups14 rfl rfl Ext.refl (fun w' hD => ?hps14) (fun phps14 => ?nps14)
                case hps14 =>
                  obtain ⟨d0, d1, d2, d3, d4, d5⟩ := FO.out _ hD.1
                  go_simp; rfl
                simp only [Act.put, List.setIfInBounds_toArray, List.set_cons_succ, List.set_cons_zero, Nat.reduceAdd]
                refine wM_val ?ups15 rfl rfl Ext.refl (fun w' hD => ?hps15) (fun phps15 => ?nps15)
                case hps15 =>
                  obtain ⟨d0, d1, d2, d3, d4, d5⟩ := FO.out _ hD.1
                  go_simp; rfl
                simp only [Act.put, List.setIfInBounds_toArray, List.set_cons_succ, List.set_cons_zero, Nat.reduceAdd]
                refine wM_val ?ups16 rfl rfl Ext.refl (fun w' hD => ?hps16) (fun phps16 => ?nps16)
                case hps16 =>
                  obtain ⟨d0, d1, d2, d3, d4, d5⟩ := FO.out _ hD.1
                  go_simp; rfl
                simp only [Act.put, List.setIfInBounds_toArray, List.set_cons_succ, List.set_cons_zero, Nat.reduceAdd]
                refine wM_val ?ups17 rfl rfl Ext.refl (fun w' hD => ?hps17) (fun phps17 => ?nps17)
                case hps17 =>
                  obtain ⟨d0, d1, d2, d3, d4, d5⟩ := FO.out _ hD.1
                  go_simp; rfl
                simp only [Act.put, List.setIfInBounds_toArray, List.set_cons_succ, List.set_cons_zero, Nat.reduceAdd]
                refine wM_val ?ups18 rfl rfl Ext.refl (fun w' hD => ?hps18) (fun phps18 => ?nps18)
                case hps18 =>
                  obtain ⟨d0, d1, d2, d3, d4, d5⟩ := FO.out _ hD.1
                  go_simp; rfl
                simp only [Act.put, List.setIfInBounds_toArray, List.set_cons_succ, List.set_cons_zero, Nat.reduceAdd]
                refine wM_val ?ups19 rfl rfl Ext.refl (fun w' hD => ?hps19) (fun phps19 => ?nps19)
                case hps19 =>
                  obtain ⟨d0, d1, d2, d3, d4, d5⟩ := FO.out _ hD.1
                  go_simp; rfl
                simp only [Act.put, List.setIfInBounds_toArray, List.set_cons_succ, List.set_cons_zero, Nat.reduceAdd]
                refine wM_val ?ups20 rfl rfl Ext.refl (fun w' hD => ?hps20) (fun phps20 => ?nps20)
                case hps20 =>
                  obtain ⟨d0, d1, d2, d3, d4, d5⟩ := FO.out _ hD.1
                  go_simp; rfl
                simp only [Act.put, List.setIfInBounds_toArray, List.set_cons_succ, List.set_cons_zero, Nat.reduceAdd]
                refine wM_val ?ups21 rfl rfl Ext.refl (fun w' hD => ?hps21) (fun phps21 => ?nps21)
                case hps21 =>
                  obtain ⟨d0, d1, d2, d3, d4, d5⟩ := FO.out _ hD.1
                  go_simp; rfl
                simp only [Act.put, List.setIfInBounds_toArray, List.set_cons_succ, List.set_cons_zero, Nat.reduceAdd]
                refine wM_nil ?_
                intro w6 hw6 hF6
                have hI6 := hI'.ext hw6
                have hJ6 := hJ'.ext hw6
                have hx6 := hx'.trans hw6
                clear hI' hJ' hx'
                by_cases hless : y + m < z
                · have HST : Hid (gstep s ⟨(fn : Int), (tn : Int), m⟩ = ⟨upd1 s.sm tn (s.sm fn + m), upd1 s.is tn true, true⟩) := gstep_yes his (.inr (by rw [HY.out, HZ.out]; exact hless))
                  have hld : decide (y + m < z) = true := by simpa using hless
                  have HS1 : Hid (gpassW (belT bel) s0.start (Z.take (k + 1)) = ⟨upd1 s.sm tn (y + m), upd1 s.is tn true, true⟩) := by unfold Hid; rw [HSN.out, HDO.out, HST.out, HY.out]
                  have HL1 : Hid (GLow (52 * (r : Int) + (k + 1 : Nat)) ⟨upd1 s.sm tn (y + m), upd1 s.is tn true, true⟩) := by have h := HLN.out; rw [HDO.out, HST.out, HY.out] at h; exact h
                  clear HSN HLN HDO HST
                  obtain ⟨c0, c1, c2, c3, -, -⟩ := FO.out _ hw6
                  obtain ⟨i1c, i1f⟩ := hI6 tn htn
                  obtain ⟨j1c, j1f⟩ := hJ6 tn htn
                  have hB1w : B1 < wr.heap.size := by have := HBK.out.1; omega
                  have hB2w : B2 < wr.heap.size := by have := HBK.out.2; omega
                  have hff : fn ≠ tn := HFF.out
                  have hpp : (⟨B1, tn, none⟩ : Addr) ≠ ⟨B2, tn, none⟩ := fun e => hgne (by injection e)
                  have FS : Hid (∀ w', St2 w9.heap.size ⟨B1, tn, none⟩ (.int .i64 (y + m)) ⟨B2, tn, none⟩ (.bool true) w6 w' → w'.cell? ⟨wr.heap.size, 0, none⟩ = some (.int .i64 (fn : Int)) ∧ w'.cell? ⟨wr.heap.size, 1, none⟩ = some (.int .i64 (tn : Int)) ∧ w'.cell? ⟨wr.heap.size, 2, none⟩ = some (.int .i64 m) ∧ w'.cell? ⟨B1, fn, none⟩ = some (.int .i64 y) ∧
                      (w'.cell? ⟨B1, tn, none⟩).isSome = true ∧ (w'.cell? ⟨B2, tn, none⟩).isSome = true ∧ w'.frozen? ⟨B1, tn, none⟩ = false ∧ w'.frozen? ⟨B2, tn, none⟩ = false) := fun w' h =>
                    ⟨h.cell _ _ (fun e => by injection e; omega) (fun e => by injection e; omega) c0, h.cell _ _ (fun e => by injection e; omega) (fun e => by injection e; omega) c1, h.cell _ _ (fun e => by injection e; omega) (fun e => by injection e; omega) c2,
                      h.cell _ _ (fun e => by injection e; omega) (fun e => by injection e; omega) c3, h.some1 (by rw [i1c]; rfl), h.some2 (by rw [j1c]; rfl), (h.fz _ (by rw [i1c]; rfl)).trans i1f, (h.fz _ (by rw [j1c]; rfl)).trans j1f⟩
                  clear c0 c1 c2 c3 i1c i1f j1c j1f FO
                  go_wp2
                  refine wp_region_shut (St2 w9.heap.size ⟨B1, tn, none⟩ (.int .i64 (y + m)) ⟨B2, tn, none⟩ (.bool true)) (fun w' => St2 w9.heap.size ⟨B1, tn, none⟩ (.int .i64 (y + m)) ⟨B2, tn, none⟩ (.bool true) w6 w') (fun | 15 => some (fun v W => v = undef ∧ W.cell? ⟨B1, tn, none⟩ = some (.int .i64 (y + m))) | 17 => some (fun v W => v = undef ∧ W.cell? ⟨B2, tn, none⟩ = some (.bool true)) | _ => none) (by kernel_rfl) (by kernel_rfl) (fun _ _ h k => h.trans k) ?hTpb ⟨(Below.refl _ _).drew, Nat.le_refl _, fun _ _ _ _ h => h, fun h => h, fun h => h, fun _ _ => rfl, fun h => h, fun h => h⟩ ?_
                  case hTpb =>
                    intro i R hR
                    match i, hR with
                    | 15, hR => cases hR; exact fun _ _ _ h k => ⟨h.1, k.keep1 h.2⟩
                    | 17, hR => cases hR; exact fun _ _ _ h k => ⟨h.1, k.keep2 h.2⟩
                  refine wM_val ?upb0 rfl rfl St2.refl (fun w' hD => ?hpb0) (fun phpb0 => ?npb0)
                  case hpb0 =>
                    obtain ⟨e0, e1, e2, e3, e4, e5, e6, e7⟩ := FS.out _ hD.1
                    go_simp; rfl
                  simp only [Act.put, List.setIfInBounds_toArray, List.set_cons_succ, List.set_cons_zero, Nat.reduceAdd]
                  refine wM_val ?upb1 rfl rfl St2.refl (fun w' hD => ?hpb1) (fun phpb1 => ?npb1)
                  case hpb1 =>
                    obtain ⟨e0, e1, e2, e3, e4, e5, e6, e7⟩ := FS.out _ hD.1
                    go_simp; rfl
                  simp only [Act.put, List.setIfInBounds_toArray, List.set_cons_succ, List.set_cons_zero, Nat.reduceAdd]
                  refine wM_val ?upb2 rfl rfl St2.refl (fun w' hD => ?hpb2) (fun phpb2 => ?npb2)
                  case hpb2 =>
                    obtain ⟨e0, e1, e2, e3, e4, e5, e6, e7⟩ := FS.out _ hD.1
                    go_simp; rfl
                  simp only [Act.put, List.setIfInBounds_toArray, List.set_cons_succ, List.set_cons_zero, Nat.reduceAdd]
                  refine wM_val ?upb3 rfl rfl St2.refl (fun w' hD => ?hpb3) (fun phpb3 => ?npb3)
                  case hpb3 =>
                    obtain ⟨e0, e1, e2, e3, e4, e5, e6, e7⟩ := FS.out _ hD.1
                    go_simp; rfl
                  simp only [Act.put, List.setIfInBounds_toArray, List.set_cons_succ, List.set_cons_zero, Nat.reduceAdd]
                  refine wM_val ?upb4 rfl rfl St2.refl (fun w' hD => ?hpb4) (fun phpb4 => ?npb4)
                  case hpb4 =>
                    obtain ⟨e0, e1, e2, e3, e4, e5, e6, e7⟩ := FS.out _ hD.1
                    go_simp; rfl
                  simp only [Act.put, List.setIfInBounds_toArray, List.set_cons_succ, List.set_cons_zero, Nat.reduceAdd]
                  refine wM_val ?upb5 rfl rfl St2.refl (fun w' hD => ?hpb5) (fun phpb5 => ?npb5)
                  case hpb5 =>
                    obtain ⟨e0, e1, e2, e3, e4, e5, e6, e7⟩ := FS.out _ hD.1
                    go_simp; rfl
                  simp only [Act.put, List.setIfInBounds_toArray, List.set_cons_succ, List.set_cons_zero, Nat.reduceAdd]
                  refine wM_val ?upb6 rfl rfl St2.refl (fun w' hD => ?hpb6) (fun phpb6 => ?npb6)
                  case hpb6 =>
                    obtain ⟨e0, e1, e2, e3, e4, e5, e6, e7⟩ := FS.out _ hD.1
                    go_simp; rfl
                  simp only [Act.put, List.setIfInBounds_toArray, List.set_cons_succ, List.set_cons_zero, Nat.reduceAdd]
                  refine wM_val ?upb7 rfl rfl St2.refl (fun w' hD => ?hpb7) (fun phpb7 => ?npb7)
                  case hpb7 =>
                    obtain ⟨e0, e1, e2, e3, e4, e5, e6, e7⟩ := FS.out _ hD.1
                    go_simp; rfl
                  simp only [Act.put, List.setIfInBounds_toArray, List.set_cons_succ, List.set_cons_zero, Nat.reduceAdd]
                  refine wM_val ?upb8 rfl rfl St2.refl (fun w' hD => ?hpb8) (fun phpb8 => ?npb8)
                  case hpb8 =>
                    obtain ⟨e0, e1, e2, e3, e4, e5, e6, e7⟩ := FS.out _ hD.1
                    go_simp; rfl
                  simp only [Act.put, List.setIfInBounds_toArray, List.set_cons_succ, List.set_cons_zero, Nat.reduceAdd]
                  refine wM_val ?upb9 rfl rfl St2.refl (fun w' hD => ?hpb9) (fun phpb9 => ?npb9)
                  case hpb9 =>
                    obtain ⟨e0, e1, e2, e3, e4, e5, e6, e7⟩ := FS.out _ hD.1
                    go_simp; rfl
                  simp only [Act.put, List.setIfInBounds_toArray, List.set_cons_succ, List.set_cons_zero, Nat.reduceAdd]
                  refine wM_val ?upb10 rfl rfl St2.refl (fun w' hD => ?hpb10) (fun phpb10 => ?npb10)
                  case hpb10 =>
                    obtain ⟨e0, e1, e2, e3, e4, e5, e6, e7⟩ := FS.out _ hD.1
                    go_simp; rfl
                  simp only [Act.put, List.setIfInBounds_toArray, List.set_cons_succ, List.set_cons_zero, Nat.reduceAdd]
                  refine wM_val ?upb11 rfl rfl St2.refl (fun w' hD => ?hpb11) (fun phpb11 => ?npb11)
                  case hpb11 =>
                    obtain ⟨e0, e1, e2, e3, e4, e5, e6, e7⟩ := FS.out _ hD.1
                    go_simp; rfl
                  simp only [Act.put, List.setIfInBounds_toArray, List.set_cons_succ, List.set_cons_zero, Nat.reduceAdd]
                  refine wM_val ?upb12 rfl rfl St2.refl (fun w' hD => ?hpb12) (fun phpb12 => ?npb12)
                  case hpb12 =>
                    obtain ⟨e0, e1, e2, e3, e4, e5, e6, e7⟩ := FS.out _ hD.1
                    go_simp; rfl
                  simp only [Act.put, List.setIfInBounds_toArray, List.set_cons_succ, List.set_cons_zero, Nat.reduceAdd]
                  refine wM_val ?upb13 rfl rfl St2.refl (fun w' hD => ?hpb13) (fun phpb13 => ?npb13)
                  case hpb13 =>
                    obtain ⟨e0, e1, e2, e3, e4, e5, e6, e7⟩ := FS.out _ hD.1
                    go_simp; rfl
                  simp only [Act.put, List.setIfInBounds_toArray, List.set_cons_succ, List.set_cons_zero, Nat.reduceAdd]
                  refine wM_val ?upb14 rfl rfl St2.refl (fun w' hD => ?hpb14) (fun phpb14 => ?npb14)
                  case hpb14 =>
                    obtain ⟨e0, e1, e2, e3, e4, e5, e6, e7⟩ := FS.out _ hD.1
                    go_simp; rfl
                  simp only [Act.put, List.setIfInBounds_toArray, List.set_cons_succ, List.set_cons_zero, Nat.reduceAdd]
                  refine wM_op _ rfl rfl (opens_skip (fun w' hD => ?rpb15)) (fun v15 hv15 => ?mpb15)
                  case rpb15 =>
                    obtain ⟨e0, e1, e2, e3, e4, e5, e6, e7⟩ := FS.out w' hD.1
                    obtain ⟨u1, hu1⟩ := Option.isSome_iff_exists.1 e4
                    refine ⟨w'.setCell ⟨B1, tn, none⟩ (.int .i64 (y + m)), ?_, St2.store1 e4 (by simpa using hb1) hpp, rfl, World.cell?_setCell_same' _ _ _ e4⟩
                    go_simp
                  obtain ⟨_, _, _, rfl, _⟩ := hv15
                  simp only [Act.put, List.setIfInBounds_toArray, List.set_cons_succ, List.set_cons_zero, Nat.reduceAdd]
                  refine wM_val ?upb16 rfl rfl St2.refl (fun w' hD => ?hpb16) (fun phpb16 => ?npb16)
                  case hpb16 =>
                    obtain ⟨e0, e1, e2, e3, e4, e5, e6, e7⟩ := FS.out _ hD.1
                    go_simp; rfl
                  simp only [Act.put, List.setIfInBounds_toArray, List.set_cons_succ, List.set_cons_zero, Nat.reduceAdd]
                  refine wM_op _ rfl rfl (opens_skip (fun w' hD => ?rpb17)) (fun v17 hv17 => ?mpb17)
                  case rpb17 =>
                    obtain ⟨e0, e1, e2, e3, e4, e5, e6, e7⟩ := FS.out w' hD.1
                    obtain ⟨u1, hu1⟩ := Option.isSome_iff_exists.1 e5
                    refine ⟨w'.setCell ⟨B2, tn, none⟩ (.bool true), ?_, St2.store2 e5 (by simpa using hb2) hpp, rfl, World.cell?_setCell_same' _ _ _ e5⟩
                    go_simp
                  obtain ⟨_, _, _, rfl, _⟩ := hv17
                  simp only [Act.put, List.setIfInBounds_toArray, List.set_cons_succ, List.set_cons_zero, Nat.reduceAdd]
                  refine wM_val ?upb18 rfl rfl St2.refl (fun w' hD => ?hpb18) (fun phpb18 => ?npb18)
                  case hpb18 =>
                    obtain ⟨e0, e1, e2, e3, e4, e5, e6, e7⟩ := FS.out _ hD.1
                    go_simp; rfl
                  simp only [Act.put, List.setIfInBounds_toArray, List.set_cons_succ, List.set_cons_zero, Nat.reduceAdd]
                  refine wM_nil ?_
                  intro w7 hw7 hF7
                  have hIf : Hid (RV w7 B1 n (fun j => .int .i64 (upd1 s.sm tn (y + m) j))) := (hI6.st1 hw7 (Ne.symm hgne) (hF7 15).2.2).congr fun j _ => by unfold upd1; split <;> rfl
                  have hJf : Hid (RV w7 B2 n (fun j => .bool (upd1 s.is tn true j))) := (hJ6.st2 hw7 hgne (hF7 17).2.2).congr fun j _ => by unfold upd1; split <;> rfl
                  have hxf : Hid (Ext w9 w7) := Below.trans hx6 hw7.below
                  clear hI6 hJ6 hx6 hF7
                  go_wp2
                  go_roundw
                  case rel => first | exact ⟨k + 1, ⟨upd1 s.sm tn (y + m), upd1 s.is tn true, true⟩, by omega, by go_num, rfl, hIf.out, hJf.out, hxf.out, HS1, HL1⟩ | exact ⟨k + 1, by omega, by omega, ⟨upd1 s.sm tn (y + m), upd1 s.is tn true, true⟩, rfl, hIf.out, hJf.out, hxf.out, HS1, HL1⟩
                  case measure => simp [intOf]; omega
                · have HST : Hid (gstep s ⟨(fn : Int), (tn : Int), m⟩ = s) := gstep_no2 hit (by rw [HY.out, HZ.out]; exact hless)
                  have hld : decide (y + m < z) = false := by simpa using hless
                  have HS1 : Hid (gpassW (belT bel) s0.start (Z.take (k + 1)) = s) := by unfold Hid; rw [HSN.out, HDO.out, HST.out]
                  have HL1 : Hid (GLow (52 * (r : Int) + (k + 1 : Nat)) s) := by have h := HLN.out; rw [HDO.out, HST.out] at h; exact h
                  clear HSN HLN HDO HST
                  go_wp2
                  go_roundw
                  case rel => first | exact ⟨k + 1, s, by omega, by go_num, rfl, hI6, hJ6, hx6, HS1, HL1⟩ | exact ⟨k + 1, by omega, by omega, s, rfl, hI6, hJ6, HS1, HL1⟩
                  case measure => simp [intOf]; omega
          · obtain ⟨w0, w1⟩ := HBL.out cx hcx
            obtain ⟨wn, hwn⟩ : ∃ q : Nat, cx.w = q := ⟨cx.w.toNat, by omega⟩
            rw [hwn] at w0 w1 Fw HSN HLN
            have hwl : wn < bel.length := by omega
            obtain ⟨q, hq⟩ := get_of_lt bel wn hwl
            obtain ⟨bq, oq, rfl, gq⟩ := (hA.ext ((hx0.trans hw9).trans hx')).at_ hq
            have Fq : ∀ o, (wr.alloc o).cell? ⟨bq, oq + wn, none⟩ = some (.bool q) := fun o => by
              obtain ⟨b3, o3, e3, g3⟩ := (hA.ext ((hx0.trans hw9).trans (hx.trans (Ext.alloc (Ext.refl wr) o)))).at_ hq
              cases e3; exact g3
            have HBQ : Hid (belT bel (wn : Int) = q) := by unfold Hid belT; simp [List.getD_eq_getElem?_getD, hq]
            clear hwn hcx gq hq
            cases q
            · have HSK : Hid (gstepW (belT bel) s (⟨(fn : Int), (tn : Int), m⟩, (wn : Int)) = s) := gstepW_skip (by simp only [not_or]; exact ⟨by omega, by rw [HBQ.out]; simp⟩)
              have HS1 : Hid (gpassW (belT bel) s0.start (Z.take (k + 1)) = s) := HSN.out.trans HSK.out
              have HL1 : Hid (GLow (52 * (r : Int) + (k + 1 : Nat)) s) := by have h := HLN.out; rw [HSK.out] at h; exact h
              clear HSN HLN HSK
              go_wp2
              go_roundw
              case rel => first | exact ⟨k + 1, s, by omega, by go_num, rfl, hI', hJ', hx', HS1, HL1⟩ | exact ⟨k + 1, by omega, by omega, s, rfl, hI', hJ', HS1, HL1⟩
              case measure => simp [intOf]; omega
            · have HDO : Hid (gstepW (belT bel) s (⟨(fn : Int), (tn : Int), m⟩, (wn : Int)) = gstep s ⟨(fn : Int), (tn : Int), m⟩) := gstepW_do (.inr HBQ.out)
              cases his : s.is fn
              · have HST : Hid (gstep s ⟨(fn : Int), (tn : Int), m⟩ = s) := gstep_no1 his
                have HS1 : Hid (gpassW (belT bel) s0.start (Z.take (k + 1)) = s) := by unfold Hid; rw [HSN.out, HDO.out, HST.out]
                have HL1 : Hid (GLow (52 * (r : Int) + (k + 1 : Nat)) s) := by have h := HLN.out; rw [HDO.out, HST.out] at h; exact h
                clear HSN HLN HDO HST
                rw [his] at F3
                go_wp2
                go_roundw
                case rel => first | exact ⟨k + 1, s, by omega, by go_num, rfl, hI', hJ', hx', HS1, HL1⟩ | exact ⟨k + 1, by omega, by omega, s, rfl, hI', hJ', HS1, HL1⟩
                case measure => simp [intOf]; omega
              · rw [his] at F3
                go_wp2
                cases hit : s.is tn
                · have HST : Hid (gstep s ⟨(fn : Int), (tn : Int), m⟩ = ⟨upd1 s.sm tn (s.sm fn + m), upd1 s.is tn true, true⟩) := gstep_yes his (.inl hit)
                  rw [hit] at F4
                  obtain ⟨Wd, hWd⟩ : ∃ Wd, wr.alloc (.cells #[.int .i64 (fn : Int), .int .i64 (tn : Int), .int .i64 m] 114) = Wd := ⟨_, rfl⟩
                  have FO : Hid (∀ w', Ext Wd w' → w'.cell? ⟨wr.heap.size, 0, none⟩ = some (.int .i64 (fn : Int)) ∧ w'.cell? ⟨wr.heap.size, 1, none⟩ = some (.int .i64 (tn : Int)) ∧ w'.cell? ⟨wr.heap.size, 2, none⟩ = some (.int .i64 m) ∧ w'.cell? ⟨B1, fn, none⟩ = some (.int .i64 y) ∧ w'.cell? ⟨B1, tn, none⟩ = some (.int .i64 z) ∧ w'.cell? ⟨B2, tn, none⟩ = some (.bool false)) := fun w' h => ⟨h.cell (by rw [← hWd]; simp [go_sem]), h.cell (by rw [← hWd]; simp [go_sem]), h.cell (by rw [← hWd]; simp [go_sem]), h.cell (by rw [← hWd]; exact F1 _), h.cell (by rw [← hWd]; exact F2 _), h.cell (by rw [← hWd]; exact F4 _)⟩
                  rw [hWd] at hI' hJ' hx' ⊢
                  clear hWd F1 F2 F3 F4 Fw
                  try clear Fq
                  refine wp_region_shut Ext (fun w' => Ext Wd w') (fun _ => none) (by kernel_rfl) (by kernel_rfl) (fun _ _ h k => h.trans k) (fun i R h => by cases h) (Ext.drew (Ext.refl Wd)) ?_
                  refine wM_val ?uqr0 rfl rfl Ext.refl (fun w' hD => ?hqr0) (fun phqr0 => ?nqr0)
                  case hqr0 =>
                    obtain ⟨d0, d1, d2, d3, d4, d5⟩ := FO.out _ hD.1
                    go_simp; rfl
                  simp only [Act.put, List.setIfInBounds_toArray, List.set_cons_succ, List.set_cons_zero, Nat.reduceAdd]
                  refine wM_val ?uqr1 rfl rfl Ext.refl (fun w' hD => ?hqr1) (fun phqr1 => ?nqr1)
                  case hqr1 =>
                    obtain ⟨d0, d1, d2, d3, d4, d5⟩ := FO.out _ hD.1
                    go_simp; rfl
                  simp only [Act.put, List.setIfInBounds_toArray, List.set_cons_succ, List.set_cons_zero, Nat.reduceAdd]
                  refine wM_val ?uqr2 rfl rfl Ext.refl (fun w' hD => ?hqr2) (fun phqr2 => ?nqr2)
                  case hqr2 =>
                    obtain ⟨d0, d1, d2, d3, d4, d5⟩ := FO.out _ hD.1
                    go_simp; rfl
                  simp only [Act.put, List.setIfInBounds_toArray, List.set_cons_succ, List.set_cons_zero, Nat.reduceAdd]
                  refine wM_val ?uqr3 rfl rfl Ext.refl (fun w' hD => ?hqr3) (fun phqr3 => ?nqr3)
                  case hqr3 =>
                    obtain ⟨d0, d1, d2, d3, d4, d5⟩ := FO.out _ hD.1
                    go_simp; rfl
                  simp only [Act.put, List.setIfInBounds_toArray, List.set_cons_succ, List.set_cons_zero, Nat.reduceAdd]
                  refine wM_val ?uqr4 rfl rfl Ext.refl (fun w' hD => ?hqr4) (fun phqr4 => ?nqr4)
                  case hqr4 =>
                    obtain ⟨d0, d1, d2, d3, d4, d5⟩ := FO.out _ hD.1
                    go_simp; rfl
                  simp only [Act.put, List.setIfInBounds_toArray, List.set_cons_succ, List.set_cons_zero, Nat.reduceAdd]
                  refine wM_val ?uqr5 rfl rfl Ext.refl (fun w' hD => ?hqr5) (fun phqr5 => ?nqr5)
                  case hqr5 =>
                    obtain ⟨d0, d1, d2, d3, d4, d5⟩ := FO.out _ hD.1
                    go_simp; rfl
                  simp only [Act.put, List.setIfInBounds_toArray, List.set_cons_succ, List.set_cons_zero, Nat.reduceAdd]
                  refine wM_val ?uqr6 rfl rfl Ext.refl (fun w' hD => ?hqr6) (fun phqr6 => ?nqr6)
                  case hqr6 =>
                    obtain ⟨d0, d1, d2, d3, d4, d5⟩ := FO.out _ hD.1
                    go_simp; rfl
                  simp only [Act.put, List.setIfInBounds_toArray, List.set_cons_succ, List.set_cons_zero, Nat.reduceAdd]
                  refine wM_skip rfl ?_
                  simp only [Act.put, List.setIfInBounds_toArray, List.set_cons_succ, List.set_cons_zero, Nat.reduceAdd]
                  refine wM_skip rfl ?_
                  simp only [Act.put, List.setIfInBounds_toArray, List.set_cons_succ, List.set_cons_zero, Nat.reduceAdd]
                  refine wM_skip rfl ?_
                  simp only [Act.put, List.setIfInBounds_toArray, List.set_cons_succ, List.set_cons_zero, Nat.reduceAdd]
                  refine wM_skip rfl ?_
                  simp only [Act.put, List.setIfInBounds_toArray, List.set_cons_succ, List.set_cons_zero, Nat.reduceAdd]
                  refine wM_skip rfl ?_
                  simp only [Act.put, List.setIfInBounds_toArray, List.set_cons_succ, List.set_cons_zero, Nat.reduceAdd]
                  refine wM_skip rfl ?_
                  simp only [Act.put, List.setIfInBounds_toArray, List.set_cons_succ, List.set_cons_zero, Nat.reduceAdd]
                  refine wM_skip rfl ?_
                  simp only [Act.put, List.setIfInBounds_toArray, List.set_cons_succ, List.set_cons_zero, Nat.reduceAdd]
                  refine wM_skip rfl ?_
                  simp only [Act.put, List.setIfInBounds_toArray, List.set_cons_succ, List.set_cons_zero, Nat.reduceAdd]
                  refine wM_skip rfl ?_
                  simp only [Act.put, List.setIfInBounds_toArray, List.set_cons_succ, List.set_cons_zero, Nat.reduceAdd]
                  refine wM_skip rfl ?_
                  simp only [Act.put, List.setIfInBounds_toArray, List.set_cons_succ, List.set_cons_zero, Nat.reduceAdd]
                  refine wM_skip rfl ?_
                  simp only [Act.put, List.setIfInBounds_toArray, List.set_cons_succ, List.set_cons_zero, Nat.reduceAdd]
                  refine wM_skip rfl ?_
                  simp only [Act.put, List.setIfInBounds_toArray, List.set_cons_succ, List.set_cons_zero, Nat.reduceAdd]
                  refine wM_skip rfl ?_
                  simp only [Act.put, List.setIfInBounds_toArray, List.set_cons_succ, List.set_cons_zero, Nat.reduceAdd]
                  refine wM_skip rfl ?_
                  simp only [Act.put, List.setIfInBounds_toArray, List.set_cons_succ, List.set_cons_zero, Nat.reduceAdd]
                  refine wM_val ?uqr21 rfl rfl Ext.refl (fun w' hD => ?hqr21) (fun phqr21 => ?nqr21)
                  case hqr21 =>
                    obtain ⟨d0, d1, d2, d3, d4, d5⟩ := FO.out _ hD.1
                    go_simp; rfl
                  simp only [Act.put, List.setIfInBounds_toArray, List.set_cons_succ, List.set_cons_zero, Nat.reduceAdd]
                  refine wM_nil ?_
                  intro w6 hw6 hF6
                  have hI6 := hI'.ext hw6
                  have hJ6 := hJ'.ext hw6
                  have hx6 := hx'.trans hw6
                  clear hI' hJ' hx'
                  have HS1 : Hid (gpassW (belT bel) s0.start (Z.take (k + 1)) = ⟨upd1 s.sm tn (y + m), upd1 s.is tn true, true⟩) := by unfold Hid; rw [HSN.out, HDO.out, HST.out, HY.out]
                  have HL1 : Hid (GLow (52 * (r : Int) + (k + 1 : Nat)) ⟨upd1 s.sm tn (y + m), upd1 s.is tn true, true⟩) := by have h := HLN.out; rw [HDO.out, HST.out, HY.out] at h; exact h
                  clear HSN HLN HDO HST
                  obtain ⟨c0, c1, c2, c3, -, -⟩ := FO.out _ hw6
                  obtain ⟨i1c, i1f⟩ := hI6 tn htn
                  obtain ⟨j1c, j1f⟩ := hJ6 tn htn
                  have hB1w : B1 < wr.heap.size := by have := HBK.out.1; omega
                  have hB2w : B2 < wr.heap.size := by have := HBK.out.2; omega
                  have hff : fn ≠ tn := HFF.out
                  have hpp : (⟨B1, tn, none⟩ : Addr) ≠ ⟨B2, tn, none⟩ := fun e => hgne (by injection e)
                  have FS : Hid (∀ w', St2 w9.heap.size ⟨B1, tn, none⟩ (.int .i64 (y + m)) ⟨B2, tn, none⟩ (.bool true) w6 w' → w'.cell? ⟨wr.heap.size, 0, none⟩ = some (.int .i64 (fn : Int)) ∧ w'.cell? ⟨wr.heap.size, 1, none⟩ = some (.int .i64 (tn : Int)) ∧ w'.cell? ⟨wr.heap.size, 2, none⟩ = some (.int .i64 m) ∧ w'.cell? ⟨B1, fn, none⟩ = some (.int .i64 y) ∧
                      (w'.cell? ⟨B1, tn, none⟩).isSome = true ∧ (w'.cell? ⟨B2, tn, none⟩).isSome = true ∧ w'.frozen? ⟨B1, tn, none⟩ = false ∧ w'.frozen? ⟨B2, tn, none⟩ = false) := fun w' h =>
                    ⟨h.cell _ _ (fun e => by injection e; omega) (fun e => by injection e; omega) c0, h.cell _ _ (fun e => by injection e; omega) (fun e => by injection e; omega) c1, h.cell _ _ (fun e => by injection e; omega) (fun e => by injection e; omega) c2,
                      h.cell _ _ (fun e => by injection e; omega) (fun e => by injection e; omega) c3, h.some1 (by rw [i1c]; rfl), h.some2 (by rw [j1c]; rfl), (h.fz _ (by rw [i1c]; rfl)).trans i1f, (h.fz _ (by rw [j1c]; rfl)).trans j1f⟩
                  clear c0 c1 c2 c3 i1c i1f j1c j1f FO
                  go_wp2
                  refine wp_region_shut (St2 w9.heap.size ⟨B1, tn, none⟩ (.int .i64 (y + m)) ⟨B2, tn, none⟩ (.bool true)) (fun w' => St2 w9.heap.size ⟨B1, tn, none⟩ (.int .i64 (y + m)) ⟨B2, tn, none⟩ (.bool true) w6 w') (fun | 15 => some (fun v W => v = undef ∧ W.cell? ⟨B1, tn, none⟩ = some (.int .i64 (y + m))) | 17 => some (fun v W => v = undef ∧ W.cell? ⟨B2, tn, none⟩ = some (.bool true)) | _ => none) (by kernel_rfl) (by kernel_rfl) (fun _ _ h k => h.trans k) ?hTqa ⟨(Below.refl _ _).drew, Nat.le_refl _, fun _ _ _ _ h => h, fun h => h, fun h => h, fun _ _ => rfl, fun h => h, fun h => h⟩ ?_
                  case hTqa =>
                    intro i R hR
                    match i, hR with
                    | 15, hR => cases hR; exact fun _ _ _ h k => ⟨h.1, k.keep1 h.2⟩
                    | 17, hR => cases hR; exact fun _ _ _ h k => ⟨h.1, k.keep2 h.2⟩
                  refine wM_val ?uqa0 rfl rfl St2.refl (fun w' hD => ?hqa0) (fun phqa0 => ?nqa0)
                  case hqa0 =>
                    obtain ⟨e0, e1, e2, e3, e4, e5, e6, e7⟩ := FS.out _ hD.1
                    go_simp; rfl
                  simp only [Act.put, List.setIfInBounds_toArray, List.set_cons_succ, List.set_cons_zero, Nat.reduceAdd]
                  refine wM_val ?uqa1 rfl rfl St2.refl (fun w' hD => ?hqa1) (fun phqa1 => ?nqa1)
                  case hqa1 =>
                    obtain ⟨e0, e1, e2, e3, e4, e5, e6, e7⟩ := FS.out _ hD.1
                    go_simp; rfl
                  simp only [Act.put, List.setIfInBounds_toArray, List.set_cons_succ, List.set_cons_zero, Nat.reduceAdd]
                  refine wM_val ?uqa2 rfl rfl St2.refl (fun w' hD => ?hqa2) (fun phqa2 => ?nqa2)
                  case hqa2 =>
                    obtain ⟨e0, e1, e2, e3, e4, e5, e6, e7⟩ := FS.out _ hD.1
                    go_simp; rfl
                  simp only [Act.put, List.setIfInBounds_toArray, List.set_cons_succ, List.set_cons_zero, Nat.reduceAdd]
                  refine wM_val ?uqa3 rfl rfl St2.refl (fun w' hD => ?hqa3) (fun phqa3 => ?nqa3)
                  case hqa3 =>
                    obtain ⟨e0, e1, e2, e3, e4, e5, e6, e7⟩ := FS.out _ hD.1
                    go_simp; rfl
                  simp only [Act.put, List.setIfInBounds_toArray, List.set_cons_succ, List.set_cons_zero, Nat.reduceAdd]
                  refine wM_val ?uqa4 rfl rfl St2.refl (fun w' hD => ?hqa4) (fun phqa4 => ?nqa4)
                  case hqa4 =>
                    obtain ⟨e0, e1, e2, e3, e4, e5, e6, e7⟩ := FS.out _ hD.1
                    go_simp; rfl
                  simp only [Act.put, List.setIfInBounds_toArray, List.set_cons_succ, List.set_cons_zero, Nat.reduceAdd]
                  refine wM_val ?uqa5 rfl rfl St2.refl (fun w' hD => ?hqa5) (fun phqa5 => ?nqa5)
                  case hqa5 =>
                    obtain ⟨e0, e1, e2, e3, e4, e5, e6, e7⟩ := FS.out _ hD.1
                    go_simp; rfl
                  simp only [Act.put, List.setIfInBounds_toArray, List.set_cons_succ, List.set_cons_zero, Nat.reduceAdd]
                  refine wM_val ?uqa6 rfl rfl St2.refl (fun w' hD => ?hqa6) (fun phqa6 => ?nqa6)
                  case hqa6 =>
                    obtain ⟨e0, e1, e2, e3, e4, e5, e6, e7⟩ := FS.out _ hD.1
                    go_simp; rfl
                  simp only [Act.put, List.setIfInBounds_toArray, List.set_cons_succ, List.set_cons_zero, Nat.reduceAdd]
                  refine wM_val ?uqa7 rfl rfl St2.refl (fun w' hD => ?hqa7) (fun phqa7 => ?nqa7)
                  case hqa7 =>
                    obtain ⟨e0, e1, e2, e3, e4, e5, e6, e7⟩ := FS.out _ hD.1
                    go_simp; rfl
                  simp only [Act.put, List.setIfInBounds_toArray, List.set_cons_succ, List.set_cons_zero, Nat.reduceAdd]
                  refine wM_val ?uqa8 rfl rfl St2.refl (fun w' hD => ?hqa8) (fun phqa8 => ?nqa8)
                  case hqa8 =>
                    obtain ⟨e0, e1, e2, e3, e4, e5, e6, e7⟩ := FS.out _ hD.1
                    go_simp; rfl
                  simp only [Act.put, List.setIfInBounds_toArray, List.set_cons_succ, List.set_cons_zero, Nat.reduceAdd]
                  refine wM_val ?uqa9 rfl rfl St2.refl (fun w' hD => ?hqa9) (fun phqa9 => ?nqa9)
                  case hqa9 =>
                    obtain ⟨e0, e1, e2, e3, e4, e5, e6, e7⟩ := FS.out _ hD.1
                    go_simp; rfl
                  simp only [Act.put, List.setIfInBounds_toArray, List.set_cons_succ, List.set_cons_zero, Nat.reduceAdd]
                  refine wM_val ?uqa10 rfl rfl St2.refl (fun w' hD => ?hqa10) (fun phqa10 => ?nqa10)
                  case hqa10 =>
                    obtain ⟨e0, e1, e2, e3, e4, e5, e6, e7⟩ := FS.out _ hD.1
                    go_simp; rfl
                  simp only [Act.put, List.setIfInBounds_toArray, List.set_cons_succ, List.set_cons_zero, Nat.reduceAdd]
                  refine wM_val ?uqa11 rfl rfl St2.refl (fun w' hD => ?hqa11) (fun phqa11 => ?nqa11)
                  case hqa11 =>
                    obtain ⟨e0, e1, e2, e3, e4, e5, e6, e7⟩ := FS.out _ hD.1
                    go_simp; rfl
                  simp only [Act.put, List.setIfInBounds_toArray, List.set_cons_succ, List.set_cons_zero, Nat.reduceAdd]
                  refine wM_val ?uqa12 rfl rfl St2.refl (fun w' hD => ?hqa12) (fun phqa12 => ?nqa12)
                  case hqa12 =>
                    obtain ⟨e0, e1, e2, e3, e4, e5, e6, e7⟩ := FS.out _ hD.1
                    go_simp; rfl
                  simp only [Act.put, List.setIfInBounds_toArray, List.set_cons_succ, List.set_cons_zero, Nat.reduceAdd]
                  refine wM_val ?uqa13 rfl rfl St2.refl (fun w' hD => ?hqa13) (fun phqa13 => ?nqa13)
                  case hqa13 =>
                    obtain ⟨e0, e1, e2, e3, e4, e5, e6, e7⟩ := FS.out _ hD.1
                    go_simp; rfl
                  simp only [Act.put, List.setIfInBounds_toArray, List.set_cons_succ, List.set_cons_zero, Nat.reduceAdd]
                  refine wM_val ?uqa14 rfl rfl St2.refl (fun w' hD => ?hqa14) (fun phqa14 => ?nqa14)
                  case hqa14 =>
                    obtain ⟨e0, e1, e2, e3, e4, e5, e6, e7⟩ := FS.out _ hD.1
                    go_simp; rfl
                  simp only [Act.put, List.setIfInBounds_toArray, List.set_cons_succ, List.set_cons_zero, Nat.reduceAdd]
                  refine wM_op _ rfl rfl (opens_skip (fun w' hD => ?rqa15)) (fun v15 hv15 => ?mqa15)
                  case rqa15 =>
                    obtain ⟨e0, e1, e2, e3, e4, e5, e6, e7⟩ := FS.out w' hD.1
                    obtain ⟨u1, hu1⟩ := Option.isSome_iff_exists.1 e4
                    refine ⟨w'.setCell ⟨B1, tn, none⟩ (.int .i64 (y + m)), ?_, St2.store1 e4 (by simpa using hb1) hpp, rfl, World.cell?_setCell_same' _ _ _ e4⟩
                    go_simp
                  obtain ⟨_, _, _, rfl, _⟩ := hv15
                  simp only [Act.put, List.setIfInBounds_toArray, List.set_cons_succ, List.set_cons_zero, Nat.reduceAdd]
                  refine wM_val ?uqa16 rfl rfl St2.refl (fun w' hD => ?hqa16) (fun phqa16 => ?nqa16)
                  case hqa16 =>
                    obtain ⟨e0, e1, e2, e3, e4, e5, e6, e7⟩ := FS.out _ hD.1
                    go_simp; rfl
                  simp only [Act.put, List.setIfInBounds_toArray, List.set_cons_succ, List.set_cons_zero, Nat.reduceAdd]
                  refine wM_op _ rfl rfl (opens_skip (fun w' hD => ?rqa17)) (fun v17 hv17 => ?mqa17)
                  case rqa17 =>
                    obtain ⟨e0, e1, e2, e3, e4, e5, e6, e7⟩ := FS.out w' hD.1
                    obtain ⟨u1, hu1⟩ := Option.isSome_iff_exists.1 e5
                    refine ⟨w'.setCell ⟨B2, tn, none⟩ (.bool true), ?_, St2.store2 e5 (by simpa using hb2) hpp, rfl, World.cell?_setCell_same' _ _ _ e5⟩
                    go_simp
                  obtain ⟨_, _, _, rfl, _⟩ := hv17
                  simp only [Act.put, List.setIfInBounds_toArray, List.set_cons_succ, List.set_cons_zero, Nat.reduceAdd]
                  refine wM_val ?uqa18 rfl rfl St2.refl (fun w' hD => ?hqa18) (fun phqa18 => ?nqa18)
                  case hqa18 =>
                    obtain ⟨e0, e1, e2, e3, e4, e5, e6, e7⟩ := FS.out _ hD.1
                    go_simp; rfl
                  simp only [Act.put, List.setIfInBounds_toArray, List.set_cons_succ, List.set_cons_zero, Nat.reduceAdd]
                  refine wM_nil ?_
                  intro w7 hw7 hF7
                  have hIf : Hid (RV w7 B1 n (fun j => .int .i64 (upd1 s.sm tn (y + m) j))) := (hI6.st1 hw7 (Ne.symm hgne) (hF7 15).2.2).congr fun j _ => by unfold upd1; split <;> rfl
                  have hJf : Hid (RV w7 B2 n (fun j => .bool (upd1 s.is tn true j))) := (hJ6.st2 hw7 hgne (hF7 17).2.2).congr fun j _ => by unfold upd1; split <;> rfl
                  have hxf : Hid (Ext w9 w7) := Below.trans hx6 hw7.below
                  clear hI6 hJ6 hx6 hF7
                  go_wp2
                  go_roundw
                  case rel => first | exact ⟨k + 1, ⟨upd1 s.sm tn (y + m), upd1 s.is tn true, true⟩, by omega, by go_num, rfl, hIf.out, hJf.out, hxf.out, HS1, HL1⟩ | exact ⟨k + 1, by omega, by omega, ⟨upd1 s.sm tn (y + m), upd1 s.is tn true, true⟩, rfl, hIf.out, hJf.out, hxf.out, HS1, HL1⟩
                  case measure => simp [intOf]; omega
                · rw [hit] at F4
                  obtain ⟨Wd, hWd⟩ : ∃ Wd, wr.alloc (.cells #[.int .i64 (fn : Int), .int .i64 (tn : Int), .int .i64 m] 114) = Wd := ⟨_, rfl⟩
                  have FO : Hid (∀ w', Ext Wd w' → w'.cell? ⟨wr.heap.size, 0, none⟩ = some (.int .i64 (fn : Int)) ∧ w'.cell? ⟨wr.heap.size, 1, none⟩ = some (.int .i64 (tn : Int)) ∧ w'.cell? ⟨wr.heap.size, 2, none⟩ = some (.int .i64 m) ∧ w'.cell? ⟨B1, fn, none⟩ = some (.int .i64 y) ∧ w'.cell? ⟨B1, tn, none⟩ = some (.int .i64 z) ∧ w'.cell? ⟨B2, tn, none⟩ = some (.bool true)) := fun w' h => ⟨h.cell (by rw [← hWd]; simp [go_sem]), h.cell (by rw [← hWd]; simp [go_sem]), h.cell (by rw [← hWd]; simp [go_sem]), h.cell (by rw [← hWd]; exact F1 _), h.cell (by rw [← hWd]; exact F2 _), h.cell (by rw [← hWd]; exact F4 _)⟩
                  rw [hWd] at hI' hJ' hx' ⊢
                  clear hWd F1 F2 F3 F4 Fw
                  try clear Fq
                  refine wp_region_shut Ext (fun w' => Ext Wd w') (fun _ => none) (by kernel_rfl) (by kernel_rfl) (fun _ _ h k => h.trans k) (fun i R h => by cases h) (Ext.drew (Ext.refl Wd)) ?_
                  refine wM_val ?uqs0 rfl rfl Ext.refl (fun w' hD => ?hqs0) (fun phqs0 => ?nqs0)
                  case hqs0 =>
                    obtain ⟨d0, d1, d2, d3, d4, d5⟩ := FO.out _ hD.1
                    go_simp; rfl
                  simp only [Act.put, List.setIfInBounds_toArray, List.set_cons_succ, List.set_cons_zero, Nat.reduceAdd]
                  refine wM_val ?uqs1 rfl rfl Ext.refl (fun w' hD => ?hqs1) (fun phqs1 => ?nqs1)
                  case hqs1 =>
                    obtain ⟨d0, d1, d2, d3, d4, d5⟩ := FO.out _ hD.1
                    go_simp; rfl
                  simp only [Act.put, List.setIfInBounds_toArray, List.set_cons_succ, List.set_cons_zero, Nat.reduceAdd]
                  refine wM_val ?uqs2 rfl rfl Ext.refl (fun w' hD => ?hqs2) (fun phqs2 => ?nqs2)
                  case hqs2 =>
                    obtain ⟨d0, d1, d2, d3, d4, d5⟩ := FO.out _ hD.1
                    go_simp; rfl
                  simp only [Act.put, List.setIfInBounds_toArray, List.set_cons_succ, List.set_cons_zero, Nat.reduceAdd]
                  refine wM_val ?uqs3 rfl rfl Ext.refl (fun w' hD => ?hqs3) (fun phqs3 => ?nqs3)
                  case hqs3 =>
                    obtain ⟨d0, d1, d2, d3, d4, d5⟩ := FO.out _ hD.1
                    go_simp; rfl
                  simp only [Act.put, List.setIfInBounds_toArray, List.set_cons_succ, List.set_cons_zero, Nat.reduceAdd]
                  refine wM_val ?uqs4 rfl rfl Ext.refl (fun w' hD => ?hqs4) (fun phqs4 => ?nqs4)
                  case hqs4 =>
                    obtain ⟨d0, d1, d2, d3, d4, d5⟩ := FO.out _ hD.1
                    go_simp; rfl
                  simp only [Act.put, List.setIfInBounds_toArray, List.set_cons_succ, List.set_cons_zero, Nat.reduceAdd]
                  refine wM_val ?uqs5 rfl rfl Ext.refl (fun w' hD => ?hqs5) (fun phqs5 => ?nqs5)
                  case hqs5 =>
                    obtain ⟨d0, d1, d2, d3, d4, d5⟩ := FO.out _ hD.1
                    go_simp; rfl
                  simp only [Act.put, List.setIfInBounds_toArray, List.set_cons_succ, List.set_cons_zero, Nat.reduceAdd]
                  refine wM_val ?uqs6 rfl rfl Ext.refl (fun w' hD => ?hqs6) (fun phqs6 => ?nqs6)
                  case hqs6 =>
                    obtain ⟨d0, d1, d2, d3, d4, d5⟩ := FO.out _ hD.1
                    go_simp; rfl
                  simp only [Act.put, List.setIfInBounds_toArray, List.set_cons_succ, List.set_cons_zero, Nat.reduceAdd]
                  refine wM_val ?uqs7 rfl rfl Ext.refl (fun w' hD => ?hqs7) (fun phqs7 => ?nqs7)
                  case hqs7 =>
                    obtain ⟨d0, d1, d2, d3, d4, d5⟩ := FO.out _ hD.1
                    go_simp; rfl
                  simp only [Act.put, List.setIfInBounds_toArray, List.set_cons_succ, List.set_cons_zero, Nat.reduceAdd]
                  refine wM_val ?uqs8 rfl rfl Ext.refl (fun w' hD => ?hqs8) (fun phqs8 => ?nqs8)
                  case hqs8 =>
                    obtain ⟨d0, d1, d2, d3, d4, d5⟩ := FO.out _ hD.1
                    go_simp; rfl
                  simp only [Act.put, List.setIfInBounds_toArray, List.set_cons_succ, List.set_cons_zero, Nat.reduceAdd]
                  refine wM_val ?uqs9 rfl rfl Ext.refl (fun w' hD => ?hqs9) (fun phqs9 => ?nqs9)
                  case hqs9 =>
                    obtain ⟨d0, d1, d2, d3, d4, d5⟩ := FO.out _ hD.1
                    go_simp; rfl
                  simp only [Act.put, List.setIfInBounds_toArray, List.set_cons_succ, List.set_cons_zero, Nat.reduceAdd]
                  refine wM_val ?uqs10 rfl rfl Ext.refl (fun w' hD => ?hqs10) (fun phqs10 => ?nqs10)
                  case hqs10 =>
                    obtain ⟨d0, d1, d2, d3, d4, d5⟩ := FO.out _ hD.1
                    go_simp; rfl
                  simp only [Act.put, List.setIfInBounds_toArray, List.set_cons_succ, List.set_cons_zero, Nat.reduceAdd]
                  refine wM_val ?uqs11 rfl rfl Ext.refl (fun w' hD => ?hqs11) (fun phqs11 => ?nqs11)
                  case hqs11 =>
                    obtain ⟨d0, d1, d2, d3, d4, d5⟩ := FO.out _ hD.1
                    go_simp; rfl
                  simp only [Act.put, List.setIfInBounds_toArray, List.set_cons_succ, List.set_cons_zero, Nat.reduceAdd]
                  refine wM_val ?uqs12 rfl rfl Ext.refl (fun w' hD => ?hqs12) (fun phqs12 => ?nqs12)
                  case hqs12 =>
                    obtain ⟨d0, d1, d2, d3, d4, d5⟩ := FO.out _ hD.1
                    go_simp; rfl
                  simp only [Act.put, List.setIfInBounds_toArray, List.set_cons_succ, List.set_cons_zero, Nat.reduceAdd]
                  refine wM_val ?uqs13 rfl rfl Ext.refl (fun w' hD => ?hqs13) (fun phqs13 => ?nqs13)
                  case hqs13 =>
                    obtain ⟨d0, d1, d2, d3, d4, d5⟩ := FO.out _ hD.1
                    go_simp; rfl
                  simp only [Act.put, List.setIfInBounds_toArray, List.set_cons_succ, List.set_cons_zero, Nat.reduceAdd]
                  refine wM_val ?uqs14 rfl rfl Ext.refl (fun w' hD => ?hqs14) (fun phqs14 => ?nqs14)
                  case hqs14 =>
                    obtain ⟨d0, d1, d2, d3, d4, d5⟩ := FO.out _ hD.1
                    go_simp; rfl
                  simp only [Act.put, List.setIfInBounds_toArray, List.set_cons_succ, List.set_cons_zero, Nat.reduceAdd]
                  refine wM_val ?uqs15 rfl rfl Ext.refl (fun w' hD => ?hqs15) (fun phqs15 => ?nqs15)
                  case hqs15 =>
                    obtain ⟨d0, d1, d2, d3, d4, d5⟩ := FO.out _ hD.1
                    go_simp; rfl
                  simp only [Act.put, List.setIfInBounds_toArray, List.set_cons_succ, List.set_cons_zero, Nat.reduceAdd]
                  refine wM_val ?uqs16 rfl rfl Ext.refl (fun w' hD => ?hqs16) (fun phqs16 => ?nqs16)
                  case hqs16 =>
                    obtain ⟨d0, d1, d2, d3, d4, d5⟩ := FO.out _ hD.1
                    go_simp; rfl
                  simp only [Act.put, List.setIfInBounds_toArray, List.set_cons_succ, List.set_cons_zero, Nat.reduceAdd]
                  refine wM_val ?uqs17 rfl rfl Ext.refl (fun w' hD => ?hqs17) (fun phqs17 => ?nqs17)
                  case hqs17 =>
                    obtain ⟨d0, d1, d2, d3, d4, d5⟩ := FO.out _ hD.1
                    go_simp; rfl
                  simp only [Act.put, List.setIfInBounds_toArray, List.set_cons_succ, List.set_cons_zero, Nat.reduceAdd]
                  refine wM_val ?uqs18 rfl rfl Ext.refl (fun w' hD => ?hqs18) (fun phqs18 => ?nqs18)
                  case hqs18 =>
                    obtain ⟨d0, d1, d2, d3, d4, d5⟩ := FO.out _ hD.1
                    go_simp; rfl
                  simp only [Act.put, List.setIfInBounds_toArray, List.set_cons_succ, List.set_cons_zero, Nat.reduceAdd]
                  refine wM_val ?uqs19 rfl rfl Ext.refl (fun w' hD => ?hqs19) (fun phqs19 => ?nqs19)
                  case hqs19 =>
                    obtain ⟨d0, d1, d2, d3, d4, d5⟩ := FO.out _ hD.1
                    go_simp; rfl
                  simp only [Act.put, List.setIfInBounds_toArray, List.set_cons_succ, List.set_cons_zero, Nat.reduceAdd]
                  refine wM_val ?uqs20 rfl rfl Ext.refl (fun w' hD => ?hqs20) (fun phqs20 => ?nqs20)
                  case hqs20 =>
                    obtain ⟨d0, d1, d2, d3, d4, d5⟩ := FO.out _ hD.1
                    go_simp; rfl
                  simp only [Act.put, List.setIfInBounds_toArray, List.set_cons_succ, List.set_cons_zero, Nat.reduceAdd]
                  refine wM_val ?uqs21 rfl rfl Ext.refl (fun w' hD => ?hqs21) (fun phqs21 => ?nqs21)
                  case hqs21 =>
                    obtain ⟨d0, d1, d2, d3, d4, d5⟩ := FO.out _ hD.1
                    go_simp; rfl
                  simp only [Act.put, List.setIfInBounds_toArray, List.set_cons_succ, List.set_cons_zero, Nat.reduceAdd]
                  refine wM_nil ?_
                  intro w6 hw6 hF6
                  have hI6 := hI'.ext hw6
                  have hJ6 := hJ'.ext hw6
                  have hx6 := hx'.trans hw6
                  clear hI' hJ' hx'
                  by_cases hless : y + m < z
                  · have HST : Hid (gstep s ⟨(fn : Int), (tn : Int), m⟩ = ⟨upd1 s.sm tn (s.sm fn + m), upd1 s.is tn true, true⟩) := gstep_yes his (.inr (by rw [HY.out, HZ.out]; exact hless))
                    have hld : decide (y + m < z) = true := by simpa using hless
                    have HS1 : Hid (gpassW (belT bel) s0.start (Z.take (k + 1)) = ⟨upd1 s.sm tn (y + m), upd1 s.is tn true, true⟩) := by unfold Hid; rw [HSN.out, HDO.out, HST.out, HY.out]
                    have HL1 : Hid (GLow (52 * (r : Int) + (k + 1 : Nat)) ⟨upd1 s.sm tn (y + m), upd1 s.is tn true, true⟩) := by have h := HLN.out; rw [HDO.out, HST.out, HY.out] at h; exact h
                    clear HSN HLN HDO HST
                    obtain ⟨c0, c1, c2, c3, -, -⟩ := FO.out _ hw6
                    obtain ⟨i1c, i1f⟩ := hI6 tn htn
                    obtain ⟨j1c, j1f⟩ := hJ6 tn htn
                    have hB1w : B1 < wr.heap.size := by have := HBK.out.1; omega
                    have hB2w : B2 < wr.heap.size := by have := HBK.out.2; omega
                    have hff : fn ≠ tn := HFF.out
                    have hpp : (⟨B1, tn, none⟩ : Addr) ≠ ⟨B2, tn, none⟩ := fun e => hgne (by injection e)
                    have FS : Hid (∀ w', St2 w9.heap.size ⟨B1, tn, none⟩ (.int .i64 (y + m)) ⟨B2, tn, none⟩ (.bool true) w6 w' → w'.cell? ⟨wr.heap.size, 0, none⟩ = some (.int .i64 (fn : Int)) ∧ w'.cell? ⟨wr.heap.size, 1, none⟩ = some (.int .i64 (tn : Int)) ∧ w'.cell? ⟨wr.heap.size, 2, none⟩ = some (.int .i64 m) ∧ w'.cell? ⟨B1, fn, none⟩ = some (.int .i64 y) ∧
                        (w'.cell? ⟨B1, tn, none⟩).isSome = true ∧ (w'.cell? ⟨B2, tn, none⟩).isSome = true ∧ w'.frozen? ⟨B1, tn, none⟩ = false ∧ w'.frozen? ⟨B2, tn, none⟩ = false) := fun w' h =>
                      ⟨h.cell _ _ (fun e => by injection e; omega) (fun e => by injection e; omega) c0, h.cell _ _ (fun e => by injection e; omega) (fun e => by injection e; omega) c1, h.cell _ _ (fun e => by injection e; omega) (fun e => by injection e; omega) c2,
                        h.cell _ _ (fun e => by injection e; omega) (fun e => by injection e; omega) c3, h.some1 (by rw [i1c]; rfl), h.some2 (by rw [j1c]; rfl), (h.fz _ (by rw [i1c]; rfl)).trans i1f, (h.fz _ (by rw [j1c]; rfl)).trans j1f⟩
                    clear c0 c1 c2 c3 i1c i1f j1c j1f FO
                    go_wp2
                    refine wp_region_shut (St2 w9.heap.size ⟨B1, tn, none⟩ (.int .i64 (y + m)) ⟨B2, tn, none⟩ (.bool true)) (fun w' => St2 w9.heap.size ⟨B1, tn, none⟩ (.int .i64 (y + m)) ⟨B2, tn, none⟩ (.bool true) w6 w') (fun | 15 => some (fun v W => v = undef ∧ W.cell? ⟨B1, tn, none⟩ = some (.int .i64 (y + m))) | 17 => some (fun v W => v = undef ∧ W.cell? ⟨B2, tn, none⟩ = some (.bool true)) | _ => none) (by kernel_rfl) (by kernel_rfl) (fun _ _ h k => h.trans k) ?hTqb ⟨(Below.refl _ _).drew, Nat.le_refl _, fun _ _ _ _ h => h, fun h => h, fun h => h, fun _ _ => rfl, fun h => h, fun h => h⟩ ?_
                    case hTqb =>
                      intro i R hR
                      match i, hR with
                      | 15, hR => cases hR; exact fun _ _ _ h k => ⟨h.1, k.keep1 h.2⟩
                      | 17, hR => cases hR; exact fun _ _ _ h k => ⟨h.1, k.keep2 h.2⟩
                    refine wM_val ?uqb0 rfl rfl St2.refl (fun w' hD => ?hqb0) (fun phqb0 => ?nqb0)
                    case hqb0 =>
                      obtain ⟨e0, e1, e2, e3, e4, e5, e6, e7⟩ := FS.out _ hD.1
                      go_simp; rfl
                    simp only [Act.put, List.setIfInBounds_toArray, List.set_cons_succ, List.set_cons_zero, Nat.reduceAdd]
                    refine wM_val ?uqb1 rfl rfl St2.refl (fun w' hD => ?hqb1) (fun phqb1 => ?nqb1)
                    case hqb1 =>
                      obtain ⟨e0, e1, e2, e3, e4, e5, e6, e7⟩ := FS.out _ hD.1
                      go_simp; rfl
                    simp only [Act.put, List.setIfInBounds_toArray, List.set_cons_succ, List.set_cons_zero, Nat.reduceAdd]
                    refine wM_val ?uqb2 rfl rfl St2.refl (fun w' hD => ?hqb2) (fun phqb2 => ?nqb2)
                    case hqb2 =>
                      obtain ⟨e0, e1, e2, e3, e4, e5, e6, e7⟩ := FS.out _ hD.1
                      go_simp; rfl
                    simp only [Act.put, List.setIfInBounds_toArray, List.set_cons_succ, List.set_cons_zero, Nat.reduceAdd]
                    refine wM_val ?uqb3 rfl rfl St2.refl (fun w' hD => ?hqb3) (fun phqb3 => ?nqb3)
                    case hqb3 =>
                      obtain ⟨e0, e1, e2, e3, e4, e5, e6, e7⟩ := FS.out _ hD.1
                      go_simp; rfl
                    simp only [Act.put, List.setIfInBounds_toArray, List.set_cons_succ, List.set_cons_zero, Nat.reduceAdd]
                    refine wM_val ?uqb4 rfl rfl St2.refl (fun w' hD => ?hqb4) (fun phqb4 => ?nqb4)
                    case hqb4 =>
                      obtain ⟨e0, e1, e2, e3, e4, e5, e6, e7⟩ := FS.out _ hD.1
                      go_simp; rfl
                    simp only [Act.put, List.setIfInBounds_toArray, List.set_cons_succ, List.set_cons_zero, Nat.reduceAdd]
                    refine wM_val ?uqb5 rfl rfl St2.refl (fun w' hD => ?hqb5) (fun phqb5 => ?nqb5)
                    case hqb5 =>
                      obtain ⟨e0, e1, e2, e3, e4, e5, e6, e7⟩ := FS.out _ hD.1
                      go_simp; rfl
                    simp only [Act.put, List.setIfInBounds_toArray, List.set_cons_succ, List.set_cons_zero, Nat.reduceAdd]
                    refine wM_val ?uqb6 rfl rfl St2.refl (fun w' hD => ?hqb6) (fun phqb6 => ?nqb6)
                    case hqb6 =>
                      obtain ⟨e0, e1, e2, e3, e4, e5, e6, e7⟩ := FS.out _ hD.1
                      go_simp; rfl
                    simp only [Act.put, List.setIfInBounds_toArray, List.set_cons_succ, List.set_cons_zero, Nat.reduceAdd]
                    refine wM_val ?uqb7 rfl rfl St2.refl (fun w' hD => ?hqb7) (fun phqb7 => ?nqb7)
                    case hqb7 =>
                      obtain ⟨e0, e1, e2, e3, e4, e5, e6, e7⟩ := FS.out _ hD.1
                      go_simp; rfl
                    simp only [Act.put, List.setIfInBounds_toArray, List.set_cons_succ, List.set_cons_zero, Nat.reduceAdd]
                    refine wM_val ?uqb8 rfl rfl St2.refl (fun w' hD => ?hqb8) (fun phqb8 => ?nqb8)
                    case hqb8 =>
                      obtain ⟨e0, e1, e2, e3, e4, e5, e6, e7⟩ := FS.out _ hD.1
                      go_simp; rfl
                    simp only [Act.put, List.setIfInBounds_toArray, List.set_cons_succ, List.set_cons_zero, Nat.reduceAdd]
                    refine wM_val ?uqb9 rfl rfl St2.refl (fun w' hD => ?hqb9) (fun phqb9 => ?nqb9)
                    case hqb9 =>
                      obtain ⟨e0, e1, e2, e3, e4, e5, e6, e7⟩ := FS.out _ hD.1
                      go_simp; rfl
                    simp only [Act.put, List.setIfInBounds_toArray, List.set_cons_succ, List.set_cons_zero, Nat.reduceAdd]
                    refine wM_val ?uqb10 rfl rfl St2.refl (fun w' hD => ?hqb10) (fun phqb10 => ?nqb10)
                    case hqb10 =>
                      obtain ⟨e0, e1, e2, e3, e4, e5, e6, e7⟩ := FS.out _ hD.1
                      go_simp; rfl
                    simp only [Act.put, List.setIfInBounds_toArray, List.set_cons_succ, List.set_cons_zero, Nat.reduceAdd]
                    refine wM_val ?uqb11 rfl rfl St2.refl (fun w' hD => ?hqb11) (fun phqb11 => ?nqb11)
                    case hqb11 =>
                      obtain ⟨e0, e1, e2, e3, e4, e5, e6, e7⟩ := FS.out _ hD.1
                      go_simp; rfl
                    simp only [Act.put, List.setIfInBounds_toArray, List.set_cons_succ, List.set_cons_zero, Nat.reduceAdd]
                    refine wM_val ?uqb12 rfl rfl St2.refl (fun w' hD => ?hqb12) (fun phqb12 => ?nqb12)
                    case hqb12 =>
                      obtain ⟨e0, e1, e2, e3, e4, e5, e6, e7⟩ := FS.out _ hD.1
                      go_simp; rfl
                    simp only [Act.put, List.setIfInBounds_toArray, List.set_cons_succ, List.set_cons_zero, Nat.reduceAdd]
                    refine wM_val ?uqb13 rfl rfl St2.refl (fun w' hD => ?hqb13) (fun phqb13 => ?nqb13)
                    case hqb13 =>
                      obtain ⟨e0, e1, e2, e3, e4, e5, e6, e7⟩ := FS.out _ hD.1
                      go_simp; rfl
                    simp only [Act.put, List.setIfInBounds_toArray, List.set_cons_succ, List.set_cons_zero, Nat.reduceAdd]
                    refine wM_val ?uqb14 rfl rfl St2.refl (fun w' hD => ?hqb14) (fun phqb14 => ?nqb14)
                    case hqb14 =>
                      obtain ⟨e0, e1, e2, e3, e4, e5, e6, e7⟩ := FS.out _ hD.1
                      go_simp; rfl
                    simp only [Act.put, List.setIfInBounds_toArray, List.set_cons_succ, List.set_cons_zero, Nat.reduceAdd]
                    refine wM_op _ rfl rfl (opens_skip (fun w' hD => ?rqb15)) (fun v15 hv15 => ?mqb15)
                    case rqb15 =>
                      obtain ⟨e0, e1, e2, e3, e4, e5, e6, e7⟩ := FS.out w' hD.1
                      obtain ⟨u1, hu1⟩ := Option.isSome_iff_exists.1 e4
                      refine ⟨w'.setCell ⟨B1, tn, none⟩ (.int .i64 (y + m)), ?_, St2.store1 e4 (by simpa using hb1) hpp, rfl, World.cell?_setCell_same' _ _ _ e4⟩
                      go_simp
                    obtain ⟨_, _, _, rfl, _⟩ := hv15
                    simp only [Act.put, List.setIfInBounds_toArray, List.set_cons_succ, List.set_cons_zero, Nat.reduceAdd]
                    refine wM_val ?uqb16 rfl rfl St2.refl (fun w' hD => ?hqb16) (fun phqb16 => ?nqb16)
                    case hqb16 =>
                      obtain ⟨e0, e1, e2, e3, e4, e5, e6, e7⟩ := FS.out _ hD.1
                      go_simp; rfl
                    simp only [Act.put, List.setIfInBounds_toArray, List.set_cons_succ, List.set_cons_zero, Nat.reduceAdd]
                    refine wM_op _ rfl rfl (opens_skip (fun w' hD => ?rqb17)) (fun v17 hv17 => ?mqb17)
                    case rqb17 =>
                      obtain ⟨e0, e1, e2, e3, e4, e5, e6, e7⟩ := FS.out w' hD.1
                      obtain ⟨u1, hu1⟩ := Option.isSome_iff_exists.1 e5
                      refine ⟨w'.setCell ⟨B2, tn, none⟩ (.bool true), ?_, St2.store2 e5 (by simpa using hb2) hpp, rfl, World.cell?_setCell_same' _ _ _ e5⟩
                      go_simp
                    obtain ⟨_, _, _, rfl, _⟩ := hv17
                    simp only [Act.put, List.setIfInBounds_toArray, List.set_cons_succ, List.set_cons_zero, Nat.reduceAdd]
                    refine wM_val ?uqb18 rfl rfl St2.refl (fun w' hD => ?hqb18) (fun phqb18 => ?nqb18)
                    case hqb18 =>
                      obtain ⟨e0, e1, e2, e3, e4, e5, e6, e7⟩ := FS.out _ hD.1
                      go_simp; rfl
                    simp only [Act.put, List.setIfInBounds_toArray, List.set_cons_succ, List.set_cons_zero, Nat.reduceAdd]
                    refine wM_nil ?_
                    intro w7 hw7 hF7
                    have hIf : Hid (RV w7 B1 n (fun j => .int .i64 (upd1 s.sm tn (y + m) j))) := (hI6.st1 hw7 (Ne.symm hgne) (hF7 15).2.2).congr fun j _ => by unfold upd1; split <;> rfl
                    have hJf : Hid (RV w7 B2 n (fun j => .bool (upd1 s.is tn true j))) := (hJ6.st2 hw7 hgne (hF7 17).2.2).congr fun j _ => by unfold upd1; split <;> rfl
                    have hxf : Hid (Ext w9 w7) := Below.trans hx6 hw7.below
                    clear hI6 hJ6 hx6 hF7
                    go_wp2
                    go_roundw
                    case rel => first | exact ⟨k + 1, ⟨upd1 s.sm tn (y + m), upd1 s.is tn true, true⟩, by omega, by go_num, rfl, hIf.out, hJf.out, hxf.out, HS1, HL1⟩ | exact ⟨k + 1, by omega, by omega, ⟨upd1 s.sm tn (y + m), upd1 s.is tn true, true⟩, rfl, hIf.out, hJf.out, hxf.out, HS1, HL1⟩
                    case measure => simp [intOf]; omega
                  · have HST : Hid (gstep s ⟨(fn : Int), (tn : Int), m⟩ = s) := gstep_no2 hit (by rw [HY.out, HZ.out]; exact hless)
                    have hld : decide (y + m < z) = false := by simpa using hless
                    have HS1 : Hid (gpassW (belT bel) s0.start (Z.take (k + 1)) = s) := by unfold Hid; rw [HSN.out, HDO.out, HST.out]
                    have HL1 : Hid (GLow (52 * (r : Int) + (k + 1 : Nat)) s) := by have h := HLN.out; rw [HDO.out, HST.out] at h; exact h
                    clear HSN HLN HDO HST
                    go_wp2
                    go_roundw
                    case rel => first | exact ⟨k + 1, s, by omega, by go_num, rfl, hI6, hJ6, hx6, HS1, HL1⟩ | exact ⟨k + 1, by omega, by omega, s, rfl, hI6, hJ6, HS1, HL1⟩
                    case measure => simp [intOf]; omega
        · have hltk' : ¬ (k : Int) < (c.all.length : Int) := by omega
          have HP : Hid (gpass s0.start L = s) := by
            have h := HS.out
            rw [List.take_of_length_le (by omega), HZL.out] at h; exact h
          have HL1 : Hid (GLow (52 * ((r + 1 : Nat) : Int)) s) := HL.out.mono (by omega)
          have HGR : Hid ((if s.less = true then grun L (n - r) s else (s, true)) = R) := by
            have h := HG.out
            rw [show n + 1 - r = (n - r) + 1 by omega] at h
            unfold grun at h
            rw [HP.out] at h; exact h
          obtain ⟨lb, hlb⟩ : ∃ lb, s.less = lb := ⟨_, rfl⟩
          rw [hlb] at HGR ⊢
          clear hlb HS HL HP HG HL0
          cases lb
          · have HE : Hid (R = (s, true)) := HGR.out.symm
            go_wp2
            go_ret3
            exact ⟨B1, B2, by rw [HE.out]; rfl, by rw [HE.out]; exact hI, by rw [HE.out]; exact hJ, (hx0.trans hw9).trans hx, Nat.le_trans (hx0.trans hw9).size hb1, Nat.le_trans (hx0.trans hw9).size hb2⟩
          · have HE : Hid (grun L (n + 1 - (r + 1)) s = R) := by unfold Hid; rw [show n + 1 - (r + 1) = n - r by omega]; exact HGR.out
            go_wp2
            go_roundw
            case rel => exact ⟨r + 1, s, by omega, by go_num, hI, hJ, hx, HE, HL1⟩
            case measure => simp [intOf]; omega
    · have hlt' : ¬ (r : Int) ≤ (n : Int) := by omega
      have HE : Hid (R = (s0, false)) := by
        have h := HG.out
        rw [show n + 1 - r = 0 by omega] at h; exact h.symm
      go_wp2
      go_ret3
      exact ⟨B1, B2, by rw [HE.out]; rfl, by rw [HE.out]; exact hI, by rw [HE.out]; exact hJ, (hx0.trans hw9).trans hx, Nat.le_trans (hx0.trans hw9).size hb1, Nat.le_trans (hx0.trans hw9).size hb2⟩
end Go.Proofs.Ytgnjhaomlbkgcaa
