/- The walk of Truth. Printed by my gen_truth.py. -/
import Derived.Test.YtgnjhaomlbkgcaaWShows
import Derived.Deep.OwnRows
namespace Go.Proofs.Ytgnjhaomlbkgcaa
open Go Go.RowKit Go.Shelf
set_option linter.unusedVariables false
set_option linter.unusedSimpArgs false

/-! Rows of numbers of one's own -/
/-- Block B is a row of numbers. -/
def Irow (w : World) (B : Nat) (l : List Int) : Prop := w.heap[B]? = some (.cells (l.map (.int .i64)).toArray 3 (0, 0))
theorem Irow.lt {w : World} {B : Nat} {l : List Int} (h : Irow w B l) : B < w.heap.size := (Array.getElem?_eq_some_iff.1 h).1
theorem Irow.ext {w w' : World} {B : Nat} {l : List Int} (h : Irow w B l) (hx : Ext w w') : Irow w' B l := (Below.block hx B h.lt).trans h
theorem Irow.bel {w w' : World} {B D : Nat} {l : List Int} (h : Irow w B l) (hx : Bel D w w') (hne : B ≠ D) : Irow w' B l := hx.heap h hne
theorem Irow.at_ {w : World} {B : Nat} {l : List Int} (h : Irow w B l) {k : Nat} {x : Int} (hk : l[k]? = some x) : w.cell? ⟨B, k, none⟩ = some (.int .i64 x) := by
  rw [cell_of_row w B k _ _ _ h]; simp [hk]
theorem Irow.frozen {w : World} {B : Nat} {l : List Int} (h : Irow w B l) (k : Nat) : w.frozen? ⟨B, k, none⟩ = false := by
  unfold Irow at h
  simp [World.frozen?, h]
theorem Irow.set {w : World} {B : Nat} {l : List Int} (h : Irow w B l) (k : Nat) (x : Int) : Irow (w.setCell ⟨B, k, none⟩ (.int .i64 x)) B (l.set k x) := by
  unfold Irow at h ⊢
  simp only [World.setCell, Array.getElem?_modify, h, if_true, Option.map_some]
  simp only [List.setIfInBounds_toArray, List.map_set, Option.isSome_none, Bool.false_eq_true, if_false]
theorem Irow.ints {w : World} {B : Nat} {l : List Int} (h : Irow w B l) : Ints w (some ⟨B, 0, none⟩) l :=
  .inr ⟨B, 0, rfl, fun j u hu => by
    rw [Nat.zero_add]
    obtain ⟨x, hx, rfl⟩ : ∃ x, l[j]? = some x ∧ Value.int .i64 x = u := by simpa using hu
    exact h.at_ hx⟩
theorem infoInt : (Try.prog.info? 3).map (fun i => (i.zero, i.size, i.bytes)) = some (some (.int .i64 0), 1, 8) := by kernel_rfl
theorem made_row (n : Nat) : madeCells #[.int .i64 0] n = ((List.replicate n (0 : Int)).map (Value.int .i64)).toArray := by
  apply Array.ext
  · simp [madeCells]
  · intro i h1 h2
    simp [madeCells, Nat.mod_one]

/-! What Truth computes -/
def colMin (g : Mat) (x a : Nat) : Int := (List.range a).foldl (fun m i => min m (g i x)) 0
theorem colMin_succ (g : Mat) (x a : Nat) : colMin g x (a + 1) = min (colMin g x a) (g a x) := by simp [colMin, List.range_succ]
def outTo (g : Mat) (n b a : Nat) : List Int := (List.range n).map fun x => if x < b then colMin g x n else if x = b then colMin g x a else 0
def subTo (g : Mat) (n k : Nat) : List Int := (List.range n).map fun x => if x < k then colMin g x n - colMin g 0 n else colMin g x n
def truthL (c : Cs) : List Int := (List.range c.ev.toNat).map fun x => colMin (gapsM allT c) x c.ev.toNat - colMin (gapsM allT c) 0 c.ev.toNat

theorem outTo_start (g : Mat) (n : Nat) : outTo g n 0 0 = List.replicate n 0 := by
  apply List.ext_getElem?
  intro i
  simp only [outTo, List.getElem?_map, List.getElem?_replicate]
  by_cases hi : i < n
  · rw [List.getElem?_range hi]
    by_cases h0 : i = 0
    · subst h0; simp [colMin]; omega
    · simp [hi, h0]
  · rw [List.getElem?_eq_none (by simpa using hi)]; simp [hi]
theorem outTo_get (g : Mat) {n b : Nat} (a : Nat) (hb : b < n) : (outTo g n b a)[b]? = some (colMin g b a) := by
  simp [outTo, hb]
theorem outTo_set (g : Mat) {n b : Nat} (a : Nat) (hb : b < n) : (outTo g n b a).set b (min (colMin g b a) (g a b)) = outTo g n b (a + 1) := by
  apply List.ext_getElem?
  intro i
  rw [List.getElem?_set]
  simp only [outTo, List.getElem?_map, List.length_map, List.length_range]
  by_cases hi : i < n
  · rw [List.getElem?_range hi]
    by_cases h : b = i
    · subst h; simp [hb, colMin_succ]
    · have h' : ¬ i = b := fun e => h e.symm
      simp [h, h']
  · rw [List.getElem?_eq_none (by simpa using hi)]; simp; omega
theorem outTo_next (g : Mat) (n b : Nat) : outTo g n b n = outTo g n (b + 1) 0 := by
  unfold outTo
  apply List.map_congr_left
  intro x _
  by_cases h1 : x < b
  · rw [if_pos h1, if_pos (by omega)]
  · by_cases h2 : x = b
    · subst h2; rw [if_neg (by omega), if_pos rfl, if_pos (by omega)]
    · rw [if_neg h1, if_neg h2, if_neg (by omega)]
      by_cases h3 : x = b + 1
      · rw [if_pos h3]; rfl
      · rw [if_neg h3]
theorem outTo_all (g : Mat) (n : Nat) : outTo g n n 0 = subTo g n 0 := by
  unfold outTo subTo
  apply List.map_congr_left
  intro x hx
  simp at hx
  simp [hx]
theorem subTo_get (g : Mat) {n : Nat} (k : Nat) {x : Nat} (hx : x < n) : (subTo g n k)[x]? = some (if x < k then colMin g x n - colMin g 0 n else colMin g x n) := by
  simp [subTo, hx]
theorem subTo_set (g : Mat) {n k : Nat} (hk : k < n) : (subTo g n k).set k (colMin g k n - colMin g 0 n) = subTo g n (k + 1) := by
  apply List.ext_getElem?
  intro i
  rw [List.getElem?_set]
  simp only [subTo, List.getElem?_map, List.length_map, List.length_range]
  by_cases hi : i < n
  · rw [List.getElem?_range hi]
    by_cases h : k = i
    · subst h; simp [hk]
    · have : (i < k + 1) ↔ (i < k) := by omega
      simp [h, this]
  · rw [List.getElem?_eq_none (by simpa using hi)]; simp; omega
theorem subTo_all (g : Mat) (n : Nat) : subTo g n n = (List.range n).map fun x => colMin g x n - colMin g 0 n := by
  unfold subTo
  apply List.map_congr_left
  intro x hx
  simp at hx
  simp [hx]
theorem colMin_low {g : Mat} {K : Int} (h : Low K g) (hK : 0 ≤ K) {x : Nat} (hx : x < 8) : ∀ a, a ≤ 8 → -(1000 * K) ≤ colMin g x a ∧ colMin g x a ≤ 0 := by
  intro a
  induction a with
  | zero => intro _; simp [colMin]; omega
  | succ a ih =>
    intro ha
    rw [colMin_succ]
    have h1 := ih (by omega)
    have h2 := h a x (by omega) hx
    omega

set_option maxRecDepth 100000 in
set_option maxHeartbeats 2000000 in
theorem truth_any (v : Value) (c : Cs) (w : World) (hc : CsR w v c) (hs : c.sized) :
    Calls Try.prog 24 #[v] w fun e w' => ∃ r, e = .returned (.tuple #[r, .int .i64 (toldC c)]) ∧ Ext w w' ∧ (toldC c = 0 → ∃ B, r = .slice (some ⟨B, 0, none⟩) c.ev.toNat c.ev.toNat ∧ w.heap.size ≤ B ∧ Irow w' B (truthL c)) ∧ (toldC c ≠ 0 → r = .slice none 0 0) := by
  have hc' := hc
  obtain ⟨A1, c1, A2, c2, rfl, hB, hC⟩ := hc
  obtain ⟨T, hT⟩ : ∃ T, toldC c = T := ⟨_, rfl⟩
  have HT := hid hT
  rw [HT.out]
  clear hT
  go_enter Try.func24, Try.ntmps24
  go_wp2_with fail
  have hx0 : Ext w (w.alloc (.cells #[.int .i64 c.ev, .slice A1 c.bs.length c1, .int .i64 c.wi, .slice A2 c.cl.length c2] 26)) := Ext.alloc (Ext.refl w) _
  refine (told_any _ c _ (hc'.ext hx0) hs).mono ?_
  rintro e w1 ⟨r, rfl, hb1, hr1, hr2⟩
  have hx1 := hx0.trans hb1
  have kc0 := hb1.cell (p := ⟨w.heap.size, 0, none⟩) (u := .int .i64 c.ev) (by simp [go_sem])
  rw [HT.out] at hr1 hr2 ⊢
  by_cases h0 : T = 0
  case neg =>
    have hr := hr2 h0
    subst hr
    have H0 := hid h0
    clear hr1 hr2
    go_wp2
    go_ret2
    exact ⟨.slice none 0 0, rfl, hx1, fun h => absurd h H0.out, fun _ => rfl⟩
  have hr := hr1 h0
  have HT0 : toldC c = 0 := HT.out.trans h0
  have H0 := toldC_check HT0
  subst h0
  clear hr1 hr2 HT
  obtain ⟨D, B1, k1, B2, k2, rfl, hd, _, _⟩ := hr
  obtain ⟨ev1, ev8⟩ := checkC_ev H0
  obtain ⟨n, hn⟩ : ∃ n : Nat, c.ev = n := ⟨c.ev.toNat, by omega⟩
  have hlow := gapsM_low (tf := allT) H0
  have HTL : Hid (truthL c = (List.range n).map fun x => colMin (gapsM allT c) x n - colMin (gapsM allT c) 0 n) := by unfold Hid truthL; rw [hn]; simp
  have HEV : Hid (c.ev.toNat = n) := by unfold Hid; rw [hn]; simp
  rw [hn] at kc0
  have hn1 : 1 ≤ n := by omega
  have hn8 : n ≤ 8 := by omega
  generalize hG : gapsM allT c = g at *
  clear hG
  have hmk := fun w => run_make_row' (P := Try.prog) 27 3 (.int .i64 0) 8 Try.underlying27 infoInt rfl .i64 .i64 n (by omega) (by omega) w
  go_wp2
  obtain ⟨W2, hW2⟩ : ∃ W2, w1.alloc (.cells (madeCells #[.int .i64 0] n) 3) = W2 := ⟨_, rfl⟩
  have hxW2 : Ext w1 W2 := by rw [← hW2]; exact Ext.alloc (Ext.refl _) _
  have hI0 : Irow W2 w1.heap.size (outTo g n 0 0) := by
    rw [outTo_start, ← hW2, made_row]; exact World.alloc_heap_new _ _
  have hd2 := hd.ext hxW2
  have kc2 := hxW2.cell kc0
  have hx2 := hx1.trans hxW2
  have hszw := hx1.size
  have hDw := hd.lt
  have hkb := World.block_lt_of_cell? w1 _ kc0
  simp only at hkb
  rw [hW2]
  clear hW2 hmk
  go_loopw [24] (fun i wr => ∃ b : Nat, b ≤ n ∧ i = .int .i64 b ∧ Irow wr w1.heap.size (outTo g n b 0) ∧ Bel w1.heap.size W2 wr) (fun i _ => n - (intOf i).toNat)
  case atStart => exact ⟨0, Nat.zero_le _, rfl, hI0, Bel.refl _ _⟩
  case round =>
    obtain ⟨b, hb, rfl, hI, hbl⟩ := hrel
    by_cases hlt : b < n
    · have hlt' : (b : Int) < (n : Int) := by omega
      have kcr := hbl.cell kc2 (by simp; omega)
      go_wp2
      go_loopw [29] (fun i wr => ∃ a : Nat, a ≤ n ∧ i = .int .i64 a ∧ Irow wr w1.heap.size (outTo g n b a) ∧ Bel w1.heap.size W2 wr) (fun i _ => n - (intOf i).toNat)
      case atStart => exact ⟨0, Nat.zero_le _, rfl, hI, hbl⟩
      case round =>
        obtain ⟨a, ha, rfl, hI, hbl⟩ := hrel
        by_cases hlta : a < n
        · have hlta' : (a : Int) < (n : Int) := by omega
          have hcell := (show Desk wr D B1 k1 B2 k2 c g from hbl.heap hd2 (by omega)).at_ (show a < 8 by omega) (show b < 8 by omega)
          have hrc := hI.at_ (outTo_get g a hlt)
          have ha8 : (a : Int) < 8 := by omega
          have hb8 : (b : Int) < 8 := by omega
          go_wp2
          have FX : Hid (∀ w', Ext wr w' → w'.cell? ⟨D, 4 + a * 8 + b, none⟩ = some (.int .i64 (g a b)) ∧ w'.cell? ⟨w1.heap.size, b, none⟩ = some (.int .i64 (colMin g b a))) := fun w' h => ⟨h.cell hcell, h.cell hrc⟩
          refine wp_region_opens_tail Ext (fun w' => Ext wr w') (fun | 14 => some (fun v W => ∃ B', v = .slice (some ⟨B', 0, none⟩) 1 1 ∧ W.cell? ⟨B', 0, none⟩ = some (.int .i64 (g a b))) | 15 => some (fun v _ => v = .int .i64 (min (colMin g b a) (g a b))) | _ => none) 17 (by kernel_rfl) (by kernel_rfl) (ext_up wr) ?hT (Ext.drew (Ext.refl wr)) ?_
          case hT =>
            intro i R hR
            match i, hR with
            | 14, hR => cases hR; exact fun _ _ _ ⟨B', e1, e2⟩ k => ⟨B', e1, k.cell e2⟩
            | 15, hR => cases hR; exact fun _ _ _ h _ => h
          refine wpM_val ?u0 rfl rfl Ext.refl (fun w' hD => ?h0) ?n0
          case h0 =>
            obtain ⟨d1, d2⟩ := FX.out w' hD.1
            go_simp; rfl
          simp only [Act.put, List.setIfInBounds_toArray, List.set_cons_succ, List.set_cons_zero, Nat.reduceAdd]
          refine wpM_val ?u1 rfl rfl Ext.refl (fun w' hD => ?h1) ?n1
          case h1 =>
            obtain ⟨d1, d2⟩ := FX.out w' hD.1
            go_simp; rfl
          simp only [Act.put, List.setIfInBounds_toArray, List.set_cons_succ, List.set_cons_zero, Nat.reduceAdd]
          refine wpM_val ?u2 rfl rfl Ext.refl (fun w' hD => ?h2) ?n2
          case h2 =>
            obtain ⟨d1, d2⟩ := FX.out w' hD.1
            go_simp; rfl
          simp only [Act.put, List.setIfInBounds_toArray, List.set_cons_succ, List.set_cons_zero, Nat.reduceAdd]
          refine wpM_val ?u3 rfl rfl Ext.refl (fun w' hD => ?h3) ?n3
          case h3 =>
            obtain ⟨d1, d2⟩ := FX.out w' hD.1
            go_simp; rfl
          simp only [Act.put, List.setIfInBounds_toArray, List.set_cons_succ, List.set_cons_zero, Nat.reduceAdd]
          refine wpM_val ?u4 rfl rfl Ext.refl (fun w' hD => ?h4) ?n4
          case h4 =>
            obtain ⟨d1, d2⟩ := FX.out w' hD.1
            go_simp; rfl
          simp only [Act.put, List.setIfInBounds_toArray, List.set_cons_succ, List.set_cons_zero, Nat.reduceAdd]
          refine wpM_val ?u5 rfl rfl Ext.refl (fun w' hD => ?h5) ?n5
          case h5 =>
            obtain ⟨d1, d2⟩ := FX.out w' hD.1
            go_simp; rfl
          simp only [Act.put, List.setIfInBounds_toArray, List.set_cons_succ, List.set_cons_zero, Nat.reduceAdd]
          refine wpM_val ?u6 rfl rfl Ext.refl (fun w' hD => ?h6) ?n6
          case h6 =>
            obtain ⟨d1, d2⟩ := FX.out w' hD.1
            go_simp; rfl
          simp only [Act.put, List.setIfInBounds_toArray, List.set_cons_succ, List.set_cons_zero, Nat.reduceAdd]
          refine wpM_val ?u7 rfl rfl Ext.refl (fun w' hD => ?h7) ?n7
          case h7 =>
            obtain ⟨d1, d2⟩ := FX.out w' hD.1
            go_simp; rfl
          simp only [Act.put, List.setIfInBounds_toArray, List.set_cons_succ, List.set_cons_zero, Nat.reduceAdd]
          refine wpM_val ?u8 rfl rfl Ext.refl (fun w' hD => ?h8) ?n8
          case h8 =>
            obtain ⟨d1, d2⟩ := FX.out w' hD.1
            go_simp; rfl
          simp only [Act.put, List.setIfInBounds_toArray, List.set_cons_succ, List.set_cons_zero, Nat.reduceAdd]
          refine wpM_val ?u9 rfl rfl Ext.refl (fun w' hD => ?h9) ?n9
          case h9 =>
            obtain ⟨d1, d2⟩ := FX.out w' hD.1
            go_simp; rfl
          simp only [Act.put, List.setIfInBounds_toArray, List.set_cons_succ, List.set_cons_zero, Nat.reduceAdd]
          refine wpM_val ?u10 rfl rfl Ext.refl (fun w' hD => ?h10) ?n10
          case h10 =>
            obtain ⟨d1, d2⟩ := FX.out w' hD.1
            go_simp; rfl
          simp only [Act.put, List.setIfInBounds_toArray, List.set_cons_succ, List.set_cons_zero, Nat.reduceAdd]
          refine wpM_val ?u11 rfl rfl Ext.refl (fun w' hD => ?h11) ?n11
          case h11 =>
            obtain ⟨d1, d2⟩ := FX.out w' hD.1
            go_simp; rfl
          simp only [Act.put, List.setIfInBounds_toArray, List.set_cons_succ, List.set_cons_zero, Nat.reduceAdd]
          refine wpM_val ?u12 rfl rfl Ext.refl (fun w' hD => ?h12) ?n12
          case h12 =>
            obtain ⟨d1, d2⟩ := FX.out w' hD.1
            go_simp; rfl
          simp only [Act.put, List.setIfInBounds_toArray, List.set_cons_succ, List.set_cons_zero, Nat.reduceAdd]
          refine wpM_val ?u13 rfl rfl Ext.refl (fun w' hD => ?h13) ?n13
          case h13 =>
            obtain ⟨d1, d2⟩ := FX.out w' hD.1
            go_simp; rfl
          simp only [Act.put, List.setIfInBounds_toArray, List.set_cons_succ, List.set_cons_zero, Nat.reduceAdd]
          refine wpM_op _ rfl rfl (opens_val (fun w' hD => ?hb14)) (fun v14 hv14 => ?nb14)
          case hb14 =>
            obtain ⟨d1, d2⟩ := FX.out w' hD.1
            refine ⟨.slice (some ⟨w'.heap.size, 0, none⟩) 1 1, w'.alloc (.cells #[.int .i64 (g a b)] 3), ?_, Ext.alloc (Ext.refl _) _, ⟨_, rfl, by simp [go_sem]⟩⟩
            go_simp
          obtain ⟨_, _, _, B', rfl, _⟩ := hv14
          simp only [Act.put, List.setIfInBounds_toArray, List.set_cons_succ, List.set_cons_zero, Nat.reduceAdd]
          refine wpM_op _ rfl rfl (opens_call ?fb15 ?gb15 (fun w' hD => ?hb15) (fun w' hD => ?cb15)) (fun v15 hv15 => ?nb15)
          case hb15 => go_simp; constructor <;> rfl
          case cb15 =>
            obtain ⟨_, B2, e1, e2⟩ := hD.get 14 (by first | kernel_rfl | simp [Region.binds])
            cases e1
            refine (least_any (colMin g b a) (some ⟨B', 0, none⟩) 1 [g a b] w' (.inr ⟨B', 0, rfl, fun j u hu => ?_⟩) (by simp)).mono ?_
            · cases j with
              | zero => cases hu; exact e2
              | succ j => simp at hu
            · rintro e w2 ⟨rfl, rfl⟩
              exact ⟨_, rfl, Ext.refl _, rfl⟩
          obtain ⟨_, _, _, rfl⟩ := hv15
          simp only [Act.put, List.setIfInBounds_toArray, List.set_cons_succ, List.set_cons_zero, Nat.reduceAdd]
          refine wpM_val ?u16 rfl rfl Ext.refl (fun w' hD => ?h16) ?n16
          case h16 =>
            obtain ⟨d1, d2⟩ := FX.out w' hD.1
            go_simp; rfl
          simp only [Act.put, List.setIfInBounds_toArray, List.set_cons_succ, List.set_cons_zero, Nat.reduceAdd]
          refine wpM_nil ?_
          intro w9 hw9 hF9
          have hI9 := hI.ext hw9
          have hz1 := hI9.at_ (outTo_get g a hlt)
          have hz2 := hI9.frozen b
          try simp only [List.drop_succ_cons, List.drop_zero]
          go_wp2
          go_roundw
          case rel => exact ⟨a + 1, by omega, by go_num, by rw [← outTo_set g a hlt]; exact hI9.set _ _, (hbl.trans (Ext.bel hw9)).setCell _ _⟩
          case measure => simp [intOf]; omega
        · have hlta' : ¬ (a : Int) < (n : Int) := by omega
          go_wp2
          go_roundw
          case rel => exact ⟨b + 1, by omega, by go_num, by (rw [show a = n by omega] at hI); rw [← outTo_next]; exact hI, hbl⟩
          case measure => simp [intOf]; omega
    · have hlt' : ¬ (b : Int) < (n : Int) := by omega
      have hI : Irow wr w1.heap.size (subTo g n 0) := by rw [← outTo_all]; rw [show b = n by omega] at hI; exact hI
      have hz0 := hI.at_ (subTo_get g 0 (show 0 < n by omega))
      rw [if_neg (by omega)] at hz0
      have hn0 : (0 : Int) < (n : Int) := by omega
      go_wp2
      go_loopw [56] (fun i wr => ∃ k : Nat, k ≤ n ∧ i = .int .i64 k ∧ Irow wr w1.heap.size (subTo g n k) ∧ Bel w1.heap.size W2 wr) (fun i _ => n - (intOf i).toNat)
      case atStart => exact ⟨0, Nat.zero_le _, rfl, hI, hbl⟩
      case round =>
        obtain ⟨k, hk, rfl, hI, hbl⟩ := hrel
        by_cases hltk : k < n
        · have hltk' : (k : Int) < (n : Int) := by omega
          have hz := hI.at_ (subTo_get g k hltk)
          rw [if_neg (by omega)] at hz
          have hzf := hI.frozen k
          have hl1 := colMin_low hlow (by omega) (show k < 8 by omega) n hn8
          have hl2 := colMin_low hlow (by omega) (show 0 < 8 by omega) n hn8
          have hwr : IntKind.i64.wrap (colMin g k n - colMin g 0 n) = colMin g k n - colMin g 0 n := IntWalk.i64_in _ ⟨by omega, by omega⟩
          go_wp2
          all_goals
            go_roundw
            case rel => exact ⟨k + 1, by omega, by go_num, by rw [← subTo_set g hltk]; exact hI.set _ _, hbl.setCell _ _⟩
            case measure => simp [intOf]; omega
        · have hltk' : ¬ (k : Int) < (n : Int) := by omega
          go_wp2
          go_ret2
          have hxf := hx2.then_bel (by omega) hbl
          have hIf : Irow wr w1.heap.size (truthL c) := by rw [HTL.out, ← subTo_all]; rw [show k = n by omega] at hI; exact hI
          exact ⟨.slice (some ⟨w1.heap.size, 0, none⟩) n n, rfl, hxf, w1.heap.size, rfl, by omega, hIf⟩
end Go.Proofs.Ytgnjhaomlbkgcaa
