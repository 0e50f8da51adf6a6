/- The law's Made: a house of numbers, and the truth that there really was. Printed by my gen_bmade.py. -/
import Derived.Test.YtjnobdcbbboeeaaGreatH3
import Derived.Test.YtjnobdcbbboeeaaGreatBHeap
import Derived.Test.YtjnobdcbbboeeaaGreatHa
import Derived.Laws.ResultCell
import Derived.Deep.DeepCutAuto
import Derived.Deep.CutBlock
namespace Go.Proofs.YtjnobdcbbboeeaaGreat
open Go Go.RowKit Go.Shelf
set_option linter.unusedVariables false
set_option linter.unusedSimpArgs false

theorem own_blk {w : World} {base g : Nat} {e : TypeId} {size n : Nat} {cs : List Value} (h : w.heap[g]? = some (.cells cs.toArray e (0, 0))) (hb : base ≤ g) (hl : cs.length = n * size) (hn : n ≤ maxLen) : w.ownsRow base e size (.slice (some ⟨g, 0, none⟩) n n) n cs :=
  ⟨hl, .inr ⟨g, n, cs.toArray, rfl, hb, h, Nat.le_refl _, hn, by simpa using hl, by simp [List.take_of_length_le (Nat.le_of_eq hl)]⟩⟩
theorem blk_own {w : World} {base g : Nat} {e : TypeId} {size n : Nat} {cs : List Value} (h : w.ownsRow base e size (.slice (some ⟨g, 0, none⟩) n n) n cs) : w.heap[g]? = some (.cells cs.toArray e (0, 0)) := by
  rcases h.2 with ⟨h1, -⟩ | ⟨g2, cap, cur, e1, h1, h2, h3, h4, h5, h6⟩
  · cases h1
  · cases e1
    rw [List.take_of_length_le (by simp [h5])] at h6
    rw [h2, ← h6]
/-- A pair laid into a block of cells. -/
theorem put_pair {w : World} {B i : Nat} {cur : List Value} {T : TypeId} (h : w.heap[B]? = some (.cells cur.toArray T (0, 0))) (x y : Value) :
    ((w.setCell ⟨B, i, none⟩ x).setCell ⟨B, i + 1, none⟩ y).heap[B]? = some (.cells ((cur.set i x).set (i + 1) y).toArray T (0, 0)) := by
  rw [heap_setW (heap_setW h x) y, List.setIfInBounds_toArray, List.setIfInBounds_toArray]
theorem blk_cellsM {w : World} {B : Nat} {xs : List Value} {T : TypeId} (h : w.heap[B]? = some (.cells xs.toArray T (0, 0))) (j : Nat) (u : Value) (hu : xs[j]? = some u) : w.cell? ⟨B, j, none⟩ = some u := by
  rw [cell_of_row w B j _ _ _ h]; simpa using hu
/-- How the world of Made stands: heap D, the house's block X, the block R of ratios; nothing else but new blocks. -/
structure MadW (D X R : Nat) (w : World) (N : Nat) (pk : Int) (f : Nat → Int) (lo hi : Nat) (A : Option Addr) (c : Nat) (ws : List Wg) (w' : World) : Prop where
  bel : BelS (fun k => k = D ∨ w.heap.size ≤ k) w w'
  hp : HeapR w' D
  hs : w'.heap[X]? = some (.cells #[.int .i64 (N : Int), .int .i64 pk, .slice A ws.length c] 25 (0, 0))
  rl : ∃ cur, w'.heap[R]? = some (.cells cur.toArray 63 (0, 0)) ∧ RealC N lo hi f cur
  own : w'.ownsRow (R + 1) 67 5 (.slice A ws.length c) ws.length (layWg.rows ws)
  ne : D < w.heap.size ∧ w.heap.size < X ∧ X < R
  rs : w'.heap[w.heap.size]? = some (.cells #[.int .i64 0, .int .i64 0, .slice none 0 0] 25 (0, 0))
section
variable {D X R : Nat} {w : World} {N : Nat} {pk : Int} {f : Nat → Int} {lo hi : Nat} {A : Option Addr} {c : Nat} {ws : List Wg} {w' w2 : World}
theorem MadW.deal (h : MadW D X R w N pk f lo hi A c ws w') (hb : Bel D w' w2) (hh : HeapR w2 D) : MadW D X R w N pk f lo hi A c ws w2 := by
  obtain ⟨n1, n2, n3⟩ := h.ne
  obtain ⟨cur, r1, r2⟩ := h.rl
  exact ⟨h.bel.trans (hb.belS (.inl rfl)), hh, hb.heap h.hs (by omega), ⟨cur, hb.heap r1 (by omega), r2⟩, hb.own h.own (fun g hg e => by have := (h.own.lt g hg).1; omega), h.ne, hb.heap h.rs (by omega)⟩
theorem MadW.ext (h : MadW D X R w N pk f lo hi A c ws w') (hx : Ext w' w2) : MadW D X R w N pk f lo hi A c ws w2 := h.deal (Ext.bel hx) (h.hp.ext hx)
theorem MadW.put (h : MadW D X R w N pk f lo hi A c ws w') {i lo' hi' : Nat} (hiN : i < N) (x : Int) (hl : ∀ j, lo' ≤ j → j < hi' → j = i ∨ (lo ≤ j ∧ j < hi)) :
    MadW D X R w N pk (updF f i x) lo' hi' A c ws ((w'.setCell ⟨R, i * 2, none⟩ (.int .i64 x)).setCell ⟨R, i * 2 + 1, none⟩ (.int .i64 200)) := by
  obtain ⟨n1, n2, n3⟩ := h.ne
  obtain ⟨cur, r1, r2⟩ := h.rl
  have hb0 : BelS (fun k => k = R) w' (w'.setCell ⟨R, i * 2, none⟩ (.int .i64 x)) := BelS.setCell (BelS.refl _ w') ⟨R, i * 2, none⟩ _ rfl
  have hb : BelS (fun k => k = R) w' ((w'.setCell ⟨R, i * 2, none⟩ (.int .i64 x)).setCell ⟨R, i * 2 + 1, none⟩ (.int .i64 200)) := BelS.setCell hb0 ⟨R, i * 2 + 1, none⟩ _ rfl
  exact ⟨h.bel.trans (hb.mono fun k _ hk => by subst hk; right; omega), h.hp.belS hb (fun k hk e => by omega), hb.heap h.hs (by omega), ⟨_, put_pair r1 _ _, r2.set hiN x hl⟩, hb.own h.own (fun g hg e => by have := (h.own.lt g hg).1; omega), h.ne, hb.heap h.rs (by omega)⟩
theorem MadW.new (h : MadW D X R w N pk f lo hi A c ws w') {B : Nat} (hb : BelS (fun k => k = B) w' w2) (hB : R + 1 ≤ B) (hoB : ∀ g, (Value.slice A ws.length c).ownBlock = some g → g ≠ B) : MadW D X R w N pk f lo hi A c ws w2 := by
  obtain ⟨n1, n2, n3⟩ := h.ne
  obtain ⟨cur, r1, r2⟩ := h.rl
  exact ⟨h.bel.trans (hb.mono fun k _ hk => by subst hk; right; omega), h.hp.belS hb (fun k hk e => by omega), hb.heap h.hs (by omega), ⟨cur, hb.heap r1 (by omega), r2⟩, hb.own h.own hoB, h.ne, hb.heap h.rs (by omega)⟩
theorem MadW.cells (h : MadW D X R w N pk f lo hi A c ws w') : w'.cell? ⟨X, 0, none⟩ = some (.int .i64 (N : Int)) ∧ w'.cell? ⟨X, 1, none⟩ = some (.int .i64 pk) ∧ w'.cell? ⟨X, 2, none⟩ = some (.slice A ws.length c) ∧ ∀ i, w'.frozen? ⟨X, i, none⟩ = false := house_cells h.hs
theorem MadW.slot (h : MadW D X R w N pk f lo hi A c ws w') {i : Nat} (hi : i < N) : (∃ u v, w'.cell? ⟨R, i * 2, none⟩ = some u ∧ w'.cell? ⟨R, i * 2 + 1, none⟩ = some v) ∧ ∀ j, w'.frozen? ⟨R, j, none⟩ = false := by
  obtain ⟨cur, r1, r2⟩ := h.rl
  have hl := r2.len
  refine ⟨⟨cur[i * 2], cur[i * 2 + 1], blk_cellsM r1 _ _ (List.getElem?_eq_getElem (by omega)), blk_cellsM r1 _ _ (List.getElem?_eq_getElem (by omega))⟩, fun j => by simp [World.frozen?, r1]⟩
theorem MadW.num (h : MadW D X R w N pk f lo hi A c ws w') {i : Nat} (h1 : lo ≤ i) (h2 : i < hi) : w'.cell? ⟨R, i * 2, none⟩ = some (.int .i64 (f i)) := by
  obtain ⟨cur, r1, r2⟩ := h.rl
  exact blk_cellsM r1 _ _ (r2.at_ i h1 h2).1
end
section
variable {D X R : Nat} {w : World} {N : Nat} {pk : Int} {f : Nat → Int} {lo hi : Nat} {A : Option Addr} {c : Nat} {ws : List Wg} {w' w5 : World}
theorem MadW.app (h : MadW D X R w N pk f lo hi A c ws w') (hS : BelS (fun k => (Value.slice A ws.length c).ownBlock = some k) w' w5) (x : Wg) {A5 : Option Addr} {c5 : Nat}
    (ho : w5.ownsRow (R + 1) 67 5 (.slice A5 (ws.length + 1) c5) (ws.length + 1) (layWg.rows ws ++ layWg.cells x)) :
    MadW D X R w N pk f lo hi A5 c5 (ws ++ [x]) (w5.setCell ⟨X, 2, none⟩ (.slice A5 (ws.length + 1) c5)) := by
  obtain ⟨n1, n2, n3⟩ := h.ne
  obtain ⟨cur, r1, r2⟩ := h.rl
  have hq : ∀ j, (Value.slice A ws.length c).ownBlock = some j → R + 1 ≤ j := fun j hj => (h.own.lt j hj).1
  have hb : BelS (fun k => k = X) w5 (w5.setCell ⟨X, 2, none⟩ (.slice A5 (ws.length + 1) c5)) := BelS.setCell (BelS.refl _ w5) ⟨X, 2, none⟩ _ rfl
  have hX5 := hS.heap h.hs (fun e => by have := hq _ e; omega)
  have hR5 := hS.heap r1 (fun e => by have := hq _ e; omega)
  have hh5 := h.hp.belS hS (fun k hk e => by have := hq _ e; omega)
  refine ⟨(h.bel.trans (hS.mono fun k _ hk => by right; have := hq _ hk; omega)).trans (hb.mono fun k _ hk => by subst hk; right; omega), hh5.belS hb (fun k hk e => by omega), ?_, ⟨cur, hb.heap hR5 (by omega), r2⟩, ?_, h.ne, hb.heap (hS.heap h.rs (fun e => by have := hq _ e; omega)) (by omega)⟩
  · rw [List.length_append]
    exact heap_setW hX5 _
  · rw [List.length_append, layWg.rows_app, layWg.rows_single]
    exact hb.own ho (fun g hg e => by have := (ho.lt g hg).1; omega)
theorem wg_cells {w : World} {B : Nat} {x : Wg} (h : w.heap[B]? = some (.cells #[.int .i64 x.mo, .int .i64 x.sl, .int .i64 x.sh, .int .i64 x.ml, .int .i64 x.mh] 67 (0, 0))) :
    w.cell? ⟨B, 0, none⟩ = some (.int .i64 x.mo) ∧ w.cell? ⟨B, 1, none⟩ = some (.int .i64 x.sl) ∧ w.cell? ⟨B, 2, none⟩ = some (.int .i64 x.sh) ∧ w.cell? ⟨B, 3, none⟩ = some (.int .i64 x.ml) ∧ w.cell? ⟨B, 4, none⟩ = some (.int .i64 x.mh) ∧ ∀ i, w.frozen? ⟨B, i, none⟩ = false :=
  ⟨by rw [cell_of_row w B 0 _ _ _ h]; rfl, by rw [cell_of_row w B 1 _ _ _ h]; rfl, by rw [cell_of_row w B 2 _ _ _ h]; rfl, by rw [cell_of_row w B 3 _ _ _ h]; rfl, by rw [cell_of_row w B 4 _ _ _ h]; rfl, fun i => by simp [World.frozen?, h]⟩
theorem put_meat {w : World} {B : Nat} {x : Wg} (h : w.heap[B]? = some (.cells #[.int .i64 x.mo, .int .i64 x.sl, .int .i64 x.sh, .int .i64 x.ml, .int .i64 x.mh] 67 (0, 0))) (a b : Int) :
    ((w.setCell ⟨B, 3, none⟩ (.int .i64 a)).setCell ⟨B, 4, none⟩ (.int .i64 b)).heap[B]? = some (.cells #[.int .i64 x.mo, .int .i64 x.sl, .int .i64 x.sh, .int .i64 a, .int .i64 b] 67 (0, 0)) := heap_setW (heap_setW h _) _
theorem belS_two (w : World) (B i j : Nat) (u v : Value) : BelS (fun k => k = B) w ((w.setCell ⟨B, i, none⟩ u).setCell ⟨B, j, none⟩ v) := by
  have h0 : BelS (fun k => k = B) w (w.setCell ⟨B, i, none⟩ u) := BelS.setCell (BelS.refl _ w) ⟨B, i, none⟩ u rfl
  exact BelS.setCell h0 ⟨B, j, none⟩ v rfl
theorem max_if (a b : Int) : max a b = if a < b then b else a := by rw [Int.max_def]; split <;> split <;> omega
end
/-- The block of a weighing that is being made. -/
def WgB (m : Nat) (wrong : Nat) (f : Nat → Int) (B : Nat) (w : World) : Prop :=
  ∃ x : Wg, w.heap[B]? = some (.cells #[.int .i64 x.mo, .int .i64 x.sl, .int .i64 x.sh, .int .i64 x.ml, .int .i64 x.mh] 67 (0, 0)) ∧ (0 ≤ x.mo ∧ x.mo < (m : Int)) ∧ ((1 ≤ x.sl ∧ x.sl ≤ x.sh ∧ x.sh ≤ 1000) ∧ (1 ≤ x.ml ∧ x.ml ≤ x.mh ∧ x.mh ≤ 1000)) ∧ (wrong = 0 → holdW x (f x.mo.toNat, 200) = true)
theorem put_house2 {w : World} {B : Nat} {u0 u1 u2 v0 v1 v2 : Value} {T : TypeId} (h : w.heap[B]? = some (.cells #[u0, u1, u2] T (0, 0))) :
    ∃ W, (((w.setCell ⟨B, 0, none⟩ v0).setCell ⟨B, 1, none⟩ v1).setCell ⟨B, 2, none⟩ v2) = W ∧ W.heap[B]? = some (.cells #[v0, v1, v2] T (0, 0)) ∧ BelS (fun k => k = B) w W :=
  ⟨_, rfl, heap_setW (heap_setW (heap_setW h v0) v1) v2, BelS.setCell (belS_two w B 0 1 v0 v1) ⟨B, 2, none⟩ v2 rfl⟩
def MadePost (D M K wrong : Nat) (w : World) (e : Ending) (w' : World) : Prop :=
  ∃ (h : Hs) (rl : List Rt) (A : Option Addr) (c : Nat) (A2 : Option Addr) (c2 : Nat), e = .returned (.tuple #[hval h A c, .slice A2 rl.length c2]) ∧ MadeH M K wrong h rl ∧ w'.ownsRow w.heap.size 67 5 (.slice A h.ws.length c) h.ws.length (layWg.rows h.ws) ∧
    w'.ownsRow w.heap.size 63 2 (.slice A2 rl.length c2) rl.length (layPr.rows rl) ∧ Bel D w w' ∧ HeapR w' D

set_option maxRecDepth 100000 in
set_option maxHeartbeats 16000000 in
theorem made_any (D M K wrong : Nat) (w : World) (hh : HeapR w D) (hM1 : 1 ≤ M) (hM : M ≤ 12) (hK : K ≤ 14) (hwr : wrong ≤ 1000) :
    Calls Tryz.prog 4 #[.pointer (some ⟨D, 0, none⟩), .int .i64 (M : Int), .int .i64 (K : Int), .int .i64 (wrong : Int)] w (MadePost D M K wrong w) := by
  unfold MadePost
  have hDl := hh.lt
  obtain ⟨WR, hWR⟩ : ∃ WR : Int, (wrong : Int) = WR := ⟨_, rfl⟩
  have hWR2 : 0 ≤ WR ∧ WR ≤ 1000 := by omega
  have HWR0 := hid hWR
  rw [hWR]
  clear hWR
  obtain ⟨W0, hW0⟩ : ∃ W0, w.alloc (.cells #[.int .i64 0, .int .i64 0, .slice none 0 0] 25) = W0 := ⟨_, rfl⟩
  have x0 : Ext w W0 := by rw [← hW0]; exact Ext.alloc (Ext.refl w) _
  have b0 : W0.heap[w.heap.size]? = some (.cells #[.int .i64 0, .int .i64 0, .slice none 0 0] 25 (0, 0)) := by rw [← hW0]; exact heap_alloc_new w _
  have z0 : W0.heap.size = w.heap.size + 1 := by rw [← hW0]; simp
  go_enter Tryz.func4, Tryz.ntmps4
  go_upto_region 1 with fail
  try rw [hW0]
  clear hW0
  go_wp2_with fail
  refine (from_any D 1 (M : Int) W0 (hh.ext x0) (by omega) (by omega) (by omega) (by omega)).mono ?_
  rintro e w1 ⟨n0, rfl, n1, n2, hb1, hh1⟩
  obtain ⟨N, rfl⟩ : ∃ N : Nat, n0 = N := ⟨n0.toNat, by omega⟩
  have hN1 : 1 ≤ N := by omega
  have hNM : N ≤ M := by omega
  have hz1 := hb1.size
  go_upto_region 2 with fail
  obtain ⟨W2, hW2⟩ : ∃ W2, w1.alloc (.cells #[.int .i64 (N : Int), .int .i64 0, .slice none 0 0] 25) = W2 := ⟨_, rfl⟩
  have x2 : Ext w1 W2 := by rw [← hW2]; exact Ext.alloc (Ext.refl _) _
  obtain ⟨X, hX⟩ : ∃ X, w1.heap.size = X := ⟨_, rfl⟩
  have b2 : W2.heap[X]? = some (.cells #[.int .i64 (N : Int), .int .i64 0, .slice none 0 0] 25 (0, 0)) := by rw [← hW2, ← hX]; exact heap_alloc_new _ _
  have hwX : w.heap.size < X := by omega
  try rw [hW2]
  clear hW2
  try rw [hX]
  obtain ⟨c0, c1, c2, fz⟩ := house_cells b2
  go_wp2_with fail
  refine (upto_any D ((N : Int) - 1) W2 (hh1.ext x2) (by omega) (by omega)).mono ?_
  rintro e w3 ⟨p0, rfl, p1, p2, hb3, hh3⟩
  obtain ⟨pk, rfl⟩ : ∃ pk : Nat, p0 = pk := ⟨p0.toNat, by omega⟩
  have hpk : pk < N := by omega
  clear c0 c1 c2 fz
  have b3 := hb3.heap b2 (show X ≠ D by omega)
  obtain ⟨c0, c1, c2, fz⟩ := house_cells b3
  obtain ⟨W4, hW4⟩ : ∃ W4, w3.setCell ⟨X, 1, none⟩ (.int .i64 (pk : Int)) = W4 := ⟨_, rfl⟩
  have bX4 : Bel X w3 W4 := by rw [← hW4]; exact (Bel.refl _ _).setCell 1 _
  have b4 : W4.heap[X]? = some (.cells #[.int .i64 (N : Int), .int .i64 (pk : Int), .slice none 0 0] 25 (0, 0)) := by rw [← hW4]; exact heap_setW b3 _
  have hh4 : HeapR W4 D := hh3.belS (S := fun k => k = X) (bX4.belS rfl) (fun k hk e => by omega)
  have hz2 := x2.size
  have hz3 := hb3.size
  have hz4 := bX4.size
  have bS4 : BelS (fun k => k = D ∨ w.heap.size ≤ k) w W4 := ((((Ext.belS x0).trans (hb1.belS (.inl rfl))).trans (Ext.belS x2)).trans (hb3.belS (.inl rfl))).trans (bX4.belS (.inr (by omega)))
  have hXl := (Array.getElem?_eq_some_iff.1 b2).1
  have b04 : W4.heap[w.heap.size]? = some (.cells #[.int .i64 0, .int .i64 0, .slice none 0 0] 25 (0, 0)) := (bX4.belS (S := fun k => k = X) rfl).heap ((hb3.belS (S := fun k => k = D) rfl).heap ((Below.block x2 _ (by omega)).trans ((hb1.belS (S := fun k => k = D) rfl).heap b0 (by omega))) (by omega)) (by omega)
  go_upto_region 3 with fail
  try rw [hW4]
  clear hW4 c0 c1 c2 fz b3 hh3 bX4 hb3 x2 b2 hb1 hh1 x0 b0 hX
  obtain ⟨c0, c1, c2, fz⟩ := house_cells b4
  obtain ⟨-, ⟨ti, tz, hti, htz, htsize, htby, htzs⟩, -, -⟩ := elem_rat
  have hb2' : Hid (ti.bytes * N ≤ 281474976710656) := by unfold Hid; rw [htby]; omega
  have hm1 : Hid (N ≤ maxLen) := by unfold Hid maxLen; omega
  have H4 := hid hti
  have H5 := hid htz
  have H6 := hid htsize
  clear hti htz htsize htby htzs
  obtain ⟨R, hR⟩ : ∃ R, W4.heap.size = R := ⟨_, rfl⟩
  have hXR : X < R := by omega
  go_wp2_with (at_make; refine wpList_make_room _ rfl _ _ 26 rfl W4.heap.size 63 ti tz 2 Tryz.underlying26 H4.out H5.out H6.out .i64 .i64 (N : Int) (N : Int) N N rfl rfl rfl rfl (Nat.le_refl _) hb2'.out hm1.out (Nat.le_refl _) ?_)
  clear c0 c1 c2 fz
  intro w5 zs5 own5 gr5
  have V5 : Ext W4 w5 := Ext.grown (Ext.refl _) gr5 (fun j e => by cases e)
  try rw [hR] at own5
  try rw [hR]
  have r5 := blk_own own5
  have l5 := own_len own5
  clear own5 gr5
  go_wp2_with fail
  refine (from_any D 40 90 w5 (hh4.ext V5) (by omega) (by omega) (by omega) (by omega)).mono ?_
  rintro e w6 ⟨n, rfl, nn1, nn2, hb6, hh6⟩
  have S6 : MadW D X R w N (pk : Int) (fun _ => 0) pk pk none 0 [] w6 := ⟨(bS4.trans (Ext.belS V5)).trans (hb6.belS (.inl rfl)), hh6, hb6.heap ((Below.block V5 _ (by omega)).trans b4) (by omega), ⟨zs5, hb6.heap r5 (by omega), l5, fun i h1 h2 => by omega⟩, own_nil _ _ _ _, ⟨by omega, hwX, hXR⟩, hb6.heap ((Below.block V5 _ (by omega)).trans b04) (by omega)⟩
  clear bS4 V5 b04 hh6 hb6 r5 l5 b4 hh4
  obtain ⟨c0, c1, c2, fz⟩ := S6.cells
  obtain ⟨⟨u0, u1, s0, s1⟩, fr⟩ := S6.slot hpk
  have hpk' : (pk : Int) < (N : Int) := by omega
  have S7 := S6.put (lo' := pk) (hi' := pk + 1) hpk n (fun j h1 h2 => by omega)
  have HF7 : Hid (RealS pk pk (pk + 1) (updF (fun _ => 0) pk n)) := RealS.one _ (by omega)
  have HK7 : Hid (updF (fun _ => 0) pk n pk = n) := updF_same _ _ _
  obtain ⟨f7, hf7⟩ : ∃ f7, updF (fun _ => (0 : Int)) pk n = f7 := ⟨_, rfl⟩
  rw [hf7] at S7 HF7 HK7
  obtain ⟨W7, hW7⟩ : ∃ W7, (w6.setCell ⟨R, pk * 2, none⟩ (.int .i64 n)).setCell ⟨R, pk * 2 + 1, none⟩ (.int .i64 200) = W7 := ⟨_, rfl⟩
  rw [hW7] at S7
  go_upto_region 6 with fail
  try rw [hW7]
  clear hW7 hf7 c0 c1 c2 fz s0 s1 fr S6
  obtain ⟨c0, c1, c2, fz⟩ := S7.cells
  go_wp2_with fail
  clear c0 c1 c2 fz
  go_loopw [13, 14] (fun i13 i14 wr => ∃ (z : Int) (m : Nat) (k : Int) (f : Nat → Int), i13 = .int .i64 z ∧ i14 = .int .i64 k ∧ z + 1 = m ∧ m ≤ pk ∧ Hid (RealS pk m (pk + 1) f) ∧ Hid (f m = k ∧ f pk = n) ∧ (8 ≤ k ∧ k ≤ 90) ∧ MadW D X R w N (pk : Int) f m (pk + 1) none 0 [] wr) (fun i _ _ => (intOf i + 1).toNat)
  case atStart => exact ⟨(pk : Int) - 1, pk, n, f7, by go_num, rfl, by omega, Nat.le_refl _, HF7, ⟨HK7.out, HK7.out⟩, by omega, S7⟩
  case round =>
    obtain ⟨z, m, k, f, rfl, rfl, hzm, hmp, HF, HK, hk8, S⟩ := hrel
    by_cases hlt : 0 ≤ z
    · obtain ⟨m', rfl⟩ : ∃ m' : Nat, z = m' := ⟨z.toNat, by omega⟩
      obtain rfl : m = m' + 1 := by omega
      have hmN : m' < N := by omega
      have hmN' : (m' : Int) < (N : Int) := by omega
      go_wp2_with fail
      refine (upto_any D 9 wr S.hp (by omega) (by omega)).mono ?_
      rintro e w8 ⟨r, rfl, r1, r2, hb8, hh8⟩
      have S8 := S.deal hb8 hh8
      obtain ⟨⟨u0, u1, s0, s1⟩, fr⟩ := S8.slot hmN
      have hk2 : 8 ≤ (if 8 < k - r then k - r else 8) ∧ (if 8 < k - r then k - r else 8) ≤ k ∧ (if 8 < k - r then k - r else 8) ≤ 90 := by split <;> omega
      obtain ⟨k2, hkk⟩ : ∃ k2, (if 8 < k - r then k - r else 8) = k2 := ⟨_, rfl⟩
      have S9 := S8.put (lo' := m') (hi' := pk + 1) hmN k2 (fun j h1 h2 => by omega)
      rw [hkk] at hk2
      have HF9 : Hid (RealS pk m' (pk + 1) (updF f m' k2)) := HF.out.down hmp (Nat.lt_succ_self _) (by rw [HK.out.1]; omega)
      have HK9 : Hid (updF f m' k2 m' = k2 ∧ updF f m' k2 pk = n) := ⟨updF_same _ _ _, by rw [updF_other f k2 (show pk ≠ m' by omega)]; exact HK.out.2⟩
      have HKM : Hid (max 8 (k - r) = k2) := by unfold Hid; rw [max_if, hkk]
      have HKK := hid hkk
      clear HF HK S S8 hkk
      go_wp2
      try rw [HKK.out]
      try rw [HKM.out]
      go_roundw
      case rel => exact ⟨(m' : Int) - 1, m', k2, _, by go_num, rfl, by omega, by omega, HF9, HK9, by omega, S9⟩
      case measure => simp [intOf]
    · have hz0 : ¬ (z ≥ 0) := by omega
      obtain rfl : m = 0 := by omega
      have hkp : Hid (f pk = n) := HK.out.2
      have HF0 := hid HF.out
      have S0 := S
      clear HK HF S hk8 hzm hmp hlt
      go_upto_region 11 with fail
      obtain ⟨c0, c1, c2, fz⟩ := S0.cells
      go_wp2_with fail
      clear c0 c1 c2 fz
      go_loopw [15, 16] (fun i15 i16 wr => ∃ (m : Nat) (k : Int) (f : Nat → Int), i15 = .int .i64 (m : Int) ∧ i16 = .int .i64 k ∧ pk < m ∧ m ≤ N ∧ Hid (RealS pk 0 m f) ∧ Hid (f (m - 1) = k) ∧ (8 ≤ k ∧ k ≤ 90) ∧ MadW D X R w N (pk : Int) f 0 m none 0 [] wr) (fun i _ _ => N - (intOf i).toNat)
      case atStart => exact ⟨pk + 1, n, f, by go_num, rfl, Nat.lt_succ_self _, hpk, HF0, hkp, by omega, S0⟩
      case round =>
        obtain ⟨m, k, f, rfl, rfl, hpm, hmN, HF, HK, hk8, S⟩ := hrel
        by_cases hlt : m < N
        · have hlt' : (m : Int) < (N : Int) := by omega
          obtain ⟨c0, c1, c2, fz⟩ := S.cells
          go_wp2_with fail
          refine (upto_any D 9 wr S.hp (by omega) (by omega)).mono ?_
          rintro e w8 ⟨r, rfl, r1, r2, hb8, hh8⟩
          have S8 := S.deal hb8 hh8
          obtain ⟨⟨u0, u1, s0, s1⟩, fr⟩ := S8.slot hlt
          have hk2 : 8 ≤ (if 8 < k - r then k - r else 8) ∧ (if 8 < k - r then k - r else 8) ≤ k ∧ (if 8 < k - r then k - r else 8) ≤ 90 := by split <;> omega
          obtain ⟨k2, hkk⟩ : ∃ k2, (if 8 < k - r then k - r else 8) = k2 := ⟨_, rfl⟩
          have S9 := S8.put (lo' := 0) (hi' := m + 1) hlt k2 (fun j h1 h2 => by omega)
          rw [hkk] at hk2
          have HF9 : Hid (RealS pk 0 (m + 1) (updF f m k2)) := HF.out.upw hpm (by omega) (by rw [HK.out]; omega)
          have HK9 : Hid (updF f m k2 (m + 1 - 1) = k2) := updF_same _ _ _
          have HKM : Hid (max 8 (k - r) = k2) := by unfold Hid; rw [max_if, hkk]
          have HKK := hid hkk
          clear HF HK S S8 hkk c0 c1 c2 fz
          go_wp2
          try rw [HKK.out]
          try rw [HKM.out]
          go_roundw
          case rel => exact ⟨m + 1, k2, _, by go_num, rfl, by omega, by omega, HF9, HK9, by omega, S9⟩
          case measure => simp [intOf]; omega
        · have hlt' : ¬ (m : Int) < (N : Int) := by omega
          obtain rfl : m = N := by omega
          have HF1 := hid HF.out
          have S1 := S
          obtain ⟨c0, c1, c2, fz⟩ := S.cells
          go_upto_region 16 with fail
          clear c0 c1 c2 fz HF HK S hk8 hlt hlt' hkp HF0 S0
          go_wp2_with fail
          refine (upto_any D (K : Int) wr S1.hp (by omega) (by omega)).mono ?_
          rintro e w8 ⟨r0, rfl, hr1, hr2, hb8, hh8⟩
          obtain ⟨r, rfl⟩ : ∃ r : Nat, r0 = r := ⟨r0.toNat, by omega⟩
          have hrK : r ≤ K := by omega
          have S2 := S1.deal hb8 hh8
          clear hb8 hh8 S1 hr1 hr2
          go_wp2_with fail
          go_loopw [84] (fun i wr => ∃ (j : Nat) (ws : List Wg) (A : Option Addr) (c : Nat), i = .int .i64 (j : Int) ∧ j ≤ r ∧ ws.length ≤ j ∧ Hid (WsS m wrong f ws) ∧ MadW D X R w m (pk : Int) f 0 m A c ws wr) (fun i _ => r - (intOf i).toNat)
          case atStart => exact ⟨0, [], none, 0, rfl, Nat.zero_le _, Nat.le_refl _, WsS.nil, S2⟩
          case round =>
            obtain ⟨j, ws, A, c, rfl, hjr, hwl, HW, S⟩ := hrel
            by_cases hlt : j < r
            · have hlt' : (j : Int) < (r : Int) := by omega
              obtain ⟨c0, c1, c2, fz⟩ := S.cells
              go_wp2_with fail
              refine (upto_any D ((m : Int) - 1) wr S.hp (by omega) (by omega)).mono ?_
              rintro e w9 ⟨mo, rfl, m1, m2, hb9, hh9⟩
              have S9 := S.deal hb9 hh9
              obtain ⟨q, rfl⟩ : ∃ q : Nat, mo = q := ⟨mo.toNat, by omega⟩
              have hqm : q < m := by omega
              clear S hb9 hh9 c0 c1 c2 fz
              go_wp2_with fail
              refine (from_any D 30 400 w9 S9.hp (by omega) (by omega) (by omega) (by omega)).mono ?_
              rintro e w10 ⟨s, rfl, ss1, ss2, hb10, hh10⟩
              have S10 := S9.deal hb10 hh10
              clear S9 hb10 hh10
              have cn := S10.num (Nat.zero_le q) hqm
              have hfq := HF1.out.rg q (Nat.zero_le _) hqm
              have hqm' : (q : Int) < (m : Int) := by omega
              obtain ⟨k, hk⟩ : ∃ k, f q = k := ⟨_, rfl⟩
              rw [hk] at cn hfq
              have HKQ := hid hk
              clear hk
              have hs400 : s ≤ 400 := by omega
              obtain ⟨tm1, tm2, tm3, tm4, tm5⟩ := made_meat ⟨ss1, hs400⟩ hfq
              go_upto_region 20 with fail
              obtain ⟨t, ht⟩ : ∃ t, (s * k).tdiv 200 = t := ⟨_, rfl⟩
              rw [ht] at tm1 tm2
              have HTT := hid ht
              try rw [ht]
              clear ht tm3 tm4 tm5 cn
              go_wp2_with fail
              refine (upto_any D 4 w10 S10.hp (by omega) (by omega)).mono ?_
              rintro e w11 ⟨a, rfl, aa, ab, hb11, hh11⟩
              have S11 := S10.deal hb11 hh11
              clear S10 hb11 hh11
              go_wp2_with fail
              refine (upto_any D 4 w11 S11.hp (by omega) (by omega)).mono ?_
              rintro e w12 ⟨b, rfl, ba, bb, hb12, hh12⟩
              have S12 := S11.deal hb12 hh12
              clear S11 hb12 hh12
              go_wp2_with fail
              refine (upto_any D 3 w12 S12.hp (by omega) (by omega)).mono ?_
              rintro e w13 ⟨d, rfl, da, db, hb13, hh13⟩
              have S13 := S12.deal hb13 hh13
              clear S12 hb13 hh13
              obtain ⟨pd, hpd⟩ : ∃ pd, (if 1 < t - d then t - d else 1) = pd := ⟨_, rfl⟩
              have hpd2 : max 1 (t - d) = pd := by rw [max_if, hpd]
              have hsa : max 1 (s - a) = s - a := Int.max_eq_right (by omega)
              go_wp2_with fail
              refine (upto_any D 3 w13 S13.hp (by omega) (by omega)).mono ?_
              rintro e w14 ⟨g, rfl, ga, gb, hb14, hh14⟩
              have S14 := S13.deal hb14 hh14
              clear S13 hb14 hh14
              go_wp2_with fail
              obtain ⟨x, hx⟩ : ∃ x : Wg, (⟨(q : Int), s - a, s + b, pd, t + 1 + g⟩ : Wg) = x := ⟨_, rfl⟩
              have HX : Hid ((0 ≤ x.mo ∧ x.mo < (m : Int)) ∧ ((1 ≤ x.sl ∧ x.sl ≤ x.sh ∧ x.sh ≤ 1000) ∧ (1 ≤ x.ml ∧ x.ml ≤ x.mh ∧ x.mh ≤ 900)) ∧ holdW x (f x.mo.toNat, 200) = true) := by
                have he : madeW (q : Int) s k a b d g = x := by
                  rw [← hx]
                  unfold madeW
                  rw [HTT.out, hpd2, hsa]
                have h1 := made_wg (h := ⟨(m : Int), 0, []⟩) (m := (q : Int)) (s := s) (k := k) (u1 := a) (u2 := b) (u3 := d) (u4 := g) ⟨by omega, hqm'⟩ ⟨ss1, hs400⟩ hfq ⟨aa, by omega⟩ ⟨ba, by omega⟩ ⟨da, by omega⟩ ⟨ga, by omega⟩
                rw [he] at h1
                obtain ⟨⟨h2, h3⟩, h4⟩ := h1
                have e0 : x.mo = (q : Int) := by rw [← hx]
                have e5 : x.mh = t + 1 + g := by rw [← hx]
                refine ⟨by rw [e0]; omega, ⟨h2, by omega⟩, ?_⟩
                rw [e0, Int.toNat_natCast, HKQ.out]; exact h4
              refine (weighed_any _ _ _ _ _ w14).mono ?_
              rw [hx]
              rintro e w15 ⟨rfl, hx15⟩
              have S15 := S14.ext hx15
              clear hx hpd hpd2 hsa S14 hx15 tm1 tm2 hfq hs400 ss1 ss2 aa ab ba bb da db ga gb HTT HKQ
              unfold Wg.val
              go_upto_region 21 with fail
              obtain ⟨W16, hW16⟩ : ∃ W16, w15.alloc (.cells #[.int .i64 x.mo, .int .i64 x.sl, .int .i64 x.sh, .int .i64 x.ml, .int .i64 x.mh] 67) = W16 := ⟨_, rfl⟩
              have hx16 : Ext w15 W16 := by rw [← hW16]; exact Ext.alloc (Ext.refl _) _
              obtain ⟨B, hB⟩ : ∃ B, w15.heap.size = B := ⟨_, rfl⟩
              have hb16 : W16.heap[B]? = some (.cells #[.int .i64 x.mo, .int .i64 x.sl, .int .i64 x.sh, .int .i64 x.ml, .int .i64 x.mh] 67 (0, 0)) := by rw [← hW16, ← hB]; exact heap_alloc_new _ _
              try rw [hW16]
              clear hW16
              try rw [hB]
              have S16 := S15.ext hx16
              have HOB : Hid (∀ g, (Value.slice A ws.length c).ownBlock = some g → g ≠ B) := fun g hg e => by have := (S15.own.lt g hg).2; omega
              have hXB : R + 1 ≤ B := by
                obtain ⟨cur, r1, -⟩ := S15.rl
                have := (Array.getElem?_eq_some_iff.1 r1).1
                omega
              have hDB : B ≠ D := by have := S15.ne; omega
              clear S15 hx16 hB
              go_cut [128] (fun s128 wx => ∃ bb : Bool, s128 = .bool bb ∧ (wrong = 0 → bb = false) ∧ Bel D W16 wx ∧ HeapR wx D)
              case first =>
                by_cases hw0 : WR ≤ 0
                · go_wp2_with fail
                  go_meet
                  exact ⟨false, rfl, fun _ => rfl, Bel.refl _ _, S16.hp⟩
                · have hw0' : (0 : Int) < WR := by omega
                  go_wp2_with fail
                  refine (once_any D WR W16 S16.hp (by omega) (by omega)).mono ?_
                  rintro e wo ⟨bb, rfl, hbo, hho⟩
                  go_wp2_with fail
                  go_meet
                  exact ⟨bb, rfl, fun h => absurd h (by have := HWR0.out; omega), hbo, hho⟩
              case rest =>
                obtain ⟨bb, rfl, hbw, hb17, hh17⟩ := hcut
                have S17 := S16.deal hb17 hh17
                have hB17 := hb17.heap hb16 hDB
                have HBW := hid hbw
                clear S16 hb16 hb17 hh17 hbw
                go_upto_if 128 with fail
                go_cut [21] (fun s21 wx => WgB m wrong f B wx ∧ MadW D X R w m (pk : Int) f 0 m A c ws wx)
                case first =>
                  cases bb with
                  | false =>
                    go_wp2_with fail
                    go_meet
                    exact ⟨⟨x, hB17, HX.out.1, ⟨HX.out.2.1.1, by have := HX.out.2.1.2; omega⟩, fun _ => HX.out.2.2⟩, S17⟩
                  | true =>
                    have hwn : Hid (wrong ≠ 0) := fun h => by have := HBW.out h; cases this
                    go_wp2_with fail
                    refine (from_any D (-12) 12 wc S17.hp (by omega) (by omega) (by omega) (by omega)).mono ?_
                    rintro e w18 ⟨y, rfl, y1, y2, hb18, hh18⟩
                    have S18 := S17.deal hb18 hh18
                    have hB18 := hb18.heap hB17 hDB
                    obtain ⟨g0, g1, g2, g3, g4, gf⟩ := wg_cells hB18
                    have hx1 := HX.out.2.1
                    have hy12 : y ≤ 12 := by omega
                    have hb1 : 1 ≤ x.ml ∧ x.ml ≤ 1000 ∧ 1 ≤ x.mh ∧ x.mh ≤ 1000 := by omega
                    clear S17 hB17 hb18 hh18 hx1
                    obtain ⟨a1, ha1⟩ : ∃ a1, (if 1 < x.ml + y then x.ml + y else 1) = a1 := ⟨_, rfl⟩
                    obtain ⟨a2, ha2⟩ : ∃ a2, (if 1 < x.mh + y then x.mh + y else 1) = a2 := ⟨_, rfl⟩
                    have ha1m : max 1 (x.ml + y) = a1 := by rw [max_if, ha1]
                    have ha2m : max 1 (x.mh + y) = a2 := by rw [max_if, ha2]
                    have HX2 : Hid ((1 ≤ x.sl ∧ x.sl ≤ x.sh ∧ x.sh ≤ 1000) ∧ (1 ≤ a1 ∧ a1 ≤ a2 ∧ a2 ≤ 1000)) := by
                      have := made_by HX.out.2.1 ⟨y1, hy12⟩
                      rw [ha1m, ha2m] at this
                      exact this
                    have hpm := put_meat hB18 a1 a2
                    have hSP : BelS (fun k => k = B) w18 ((w18.setCell ⟨B, 3, none⟩ (.int .i64 a1)).setCell ⟨B, 4, none⟩ (.int .i64 a2)) := belS_two w18 B 3 4 _ _
                    have HPM := hid hpm
                    have HSP := hid hSP
                    clear hpm hSP hB18
                    go_wp2_with fail
                    go_meet
                    exact ⟨⟨⟨x.mo, x.sl, x.sh, a1, a2⟩, HPM.out, HX.out.1, HX2.out, fun h => absurd h hwn.out⟩, S18.new HSP.out hXB HOB.out⟩
                case rest =>
                  obtain ⟨⟨x2, hB19, hx1, hx2, hx3⟩, S19⟩ := hcut
                  have HN1 := hid (HW.out.add hx1 hx2 hx3)
                  obtain ⟨c0, c1, c2, fz⟩ := S19.cells
                  obtain ⟨g0, g1, g2, g3, g4, gf⟩ := wg_cells hB19
                  clear hx1 hx2 hx3 HX HW HBW
                  have hRl : R < wc.heap.size := by
                    obtain ⟨cur, r1, -⟩ := S19.rl
                    exact (Array.getElem?_eq_some_iff.1 r1).1
                  have ho19 := S19.own
                  go_wp2_with (at_builtin; refine wpList_append_rd2 _ rfl _ _ 23 rfl elem_wg (R + 1) _ ws.length (layWg.rows ws) rfl (own_below ho19 (Ext.alloc (Ext.refl _) _)) (some ⟨wc.heap.size, 0, none⟩) 1 1 (layWg.cells x2) rfl rfl (rd_blk2 (heap_alloc_new wc _)) (layWg.one x2) (by omega) (by simp; omega) ?_)
                  intro A5 c5 w20 own20 bel20 gr20 at20
                  obtain ⟨W19, hW19⟩ : ∃ W19, wc.alloc (.cells (layWg.cells x2).toArray 67) = W19 := ⟨_, rfl⟩
                  have hx19 : Ext wc W19 := by rw [← hW19]; exact Ext.alloc (Ext.refl _) _
                  have gr20' : W19.grownBy w20 (Value.slice A ws.length c).ownBlock := by rw [← hW19]; exact gr20
                  have hS20 : BelS (fun j => (Value.slice A ws.length c).ownBlock = some j) W19 w20 := (BelS.refl _ W19).grown gr20' (fun k e => e)
                  have SN := (S19.ext hx19).app hS20 x2 own20
                  have hX20 := hS20.heap (S19.ext hx19).hs (fun e => by have := (ho19.lt _ e).1; have := S19.ne; omega)
                  clear own20 gr20 gr20' at20 bel20 hW19 c0 c1 c2 fz g0 g1 g2 g3 g4 gf hB19 S19 hx19 ho19 hS20
                  obtain ⟨c0, c1, c2, fz⟩ := house_cells hX20
                  go_wp2
                  go_roundw
                  case rel => exact ⟨j + 1, ws ++ [x2], A5, c5, by go_num, by omega, by rw [List.length_append]; simp only [List.length_cons, List.length_nil]; omega, HN1, SN⟩
                  case measure => simp [intOf]; omega
            · have hlt' : ¬ (j : Int) < (r : Int) := by omega
              have HWs := hid HW.out
              obtain ⟨c0, c1, c2, fz0⟩ := S.cells
              obtain ⟨z0, z1, z2, fz⟩ := house_cells S.rs
              obtain ⟨W, hW, q1, q2⟩ := put_house2 (v0 := .int .i64 (m : Int)) (v1 := .int .i64 (pk : Int)) (v2 := .slice A ws.length c) S.rs
              obtain ⟨k0, k1, k2, -⟩ := house_cells q1
              obtain ⟨n1, n2, n3⟩ := S.ne
              obtain ⟨cur, hcur, hrc⟩ := S.rl
              have hRN : (realL m f).length = m := realL_len m f
              have e1 : W.ownsRow w.heap.size 63 2 (.slice (some ⟨R, 0, none⟩) m m) m (layPr.rows (realL m f)) := by
                rw [← hrc.full]
                exact own_blk (q2.heap hcur (by omega)) (by omega) hrc.len (by unfold maxLen; omega)
              have e2 : W.ownsRow w.heap.size 67 5 (.slice A ws.length c) ws.length (layWg.rows ws) := q2.own (own_base S.own (by omega)) (fun g hg e => by have := (S.own.lt g hg).1; omega)
              have e3 : Bel D w W := (S.bel.trans (q2.mono fun k _ hk => by right; omega)).bel (fun k hk hS => by omega)
              have e4 : HeapR W D := S.hp.belS q2 (fun k hk e => by omega)
              have e5 : MadeH M K wrong ⟨(m : Int), (pk : Int), ws⟩ (realL m f) := HWs.out.made HF1.out hN1 hNM hM hpk (by omega) hK
              clear HWs HW S hcur hrc q1 q2 HF1
              go_wp2
              try rw [hW]
              refine bodyPost_ret (v := .tuple #[.agg #[.int .i64 (m : Int), .int .i64 (pk : Int), .slice A ws.length c], .slice (some ⟨R, 0, none⟩) m m]) ?_ rfl ⟨⟨(m : Int), (pk : Int), ws⟩, realL m f, A, c, some ⟨R, 0, none⟩, m, by rw [hRN]; rfl, e5, e2, by rw [hRN]; exact e1, e3, e4⟩
              simp [results, Tryz.results4, go_sem, k0, k1, k2]
end Go.Proofs.YtjnobdcbbboeeaaGreat
