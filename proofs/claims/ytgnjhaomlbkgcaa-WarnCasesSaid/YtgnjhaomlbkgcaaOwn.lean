/- The walk of Own. Printed by my gen_own.py. -/
import Derived.Test.YtgnjhaomlbkgcaaDup
import Derived.Test.YtgnjhaomlbkgcaaWMade
import Derived.Test.YtgnjhaomlbkgcaaRegion2
namespace Go.Proofs.Ytgnjhaomlbkgcaa
open Go Go.RowKit Go.Shelf
set_option linter.unusedVariables false
set_option linter.unusedSimpArgs false

/-- Rows of bounds of their own: of each claim one, in the blocks gs. -/
def ClO (w : World) (B : Nat) : List Nat → List Value → List Cl → Prop
  | [], [], [] => True
  | g :: gs, a :: b :: xs, x :: l => a = .int .i64 x.w ∧ (∃ k, b = .slice (some ⟨g, 0, none⟩) x.bs.length k ∧ w.ownsRow B 35 3 (.slice (some ⟨g, 0, none⟩) x.bs.length k) x.bs.length (bcells x.bs)) ∧ ClO w B gs xs l
  | _, _, _ => False
theorem ClO.keep {w w' : World} {B : Nat} : ∀ {gs : List Nat} {xs : List Value} {l : List Cl}, (∀ g ∈ gs, ∀ base e s n v ys, v.ownBlock = some g → w.ownsRow base e s v n ys → w'.ownsRow base e s v n ys) → ClO w B gs xs l → ClO w' B gs xs l
  | [], [], [], _, _ => trivial
  | g :: gs, _ :: _ :: xs, _ :: l, hk, ⟨h1, ⟨k, h2, h3⟩, h4⟩ => ⟨h1, ⟨k, h2, hk g (by simp) _ _ _ _ _ _ rfl h3⟩, ClO.keep (fun g' hg' => hk g' (by simp [hg'])) h4⟩
  | [], [], _ :: _, _, h => h.elim
  | [], _ :: _, _, _, h => h.elim
  | _ :: _, [], _, _, h => h.elim
  | _ :: _, [_], _, _, h => h.elim
  | _ :: _, _ :: _ :: _, [], _, h => h.elim
theorem ClO.ext {w w' : World} {B : Nat} {gs : List Nat} {xs : List Value} {l : List Cl} (h : ClO w B gs xs l) (hx : Ext w w') : ClO w' B gs xs l := h.keep fun _ _ _ _ _ _ _ _ _ ho => own_below ho hx
theorem ClO.belS {S : Nat → Prop} {w w' : World} {B : Nat} {gs : List Nat} {xs : List Value} {l : List Cl} (h : ClO w B gs xs l) (hx : BelS S w w') (hg : ∀ g ∈ gs, ¬ S g) : ClO w' B gs xs l :=
  h.keep fun g hm _ _ _ _ _ _ hv ho => hx.own ho fun k hk => by rw [hv] at hk; cases hk; exact hg g hm
theorem ClO.lt {w : World} {B : Nat} : ∀ {gs : List Nat} {xs : List Value} {l : List Cl}, ClO w B gs xs l → ∀ g ∈ gs, B ≤ g ∧ g < w.heap.size
  | [], [], [], _ => by intro g h; cases h
  | g :: gs, _ :: _ :: xs, _ :: l, ⟨_, ⟨k, _, h3⟩, h4⟩ => by
    intro g' hg'
    rcases List.mem_cons.1 hg' with rfl | h
    · exact h3.lt g' rfl
    · exact ClO.lt h4 g' h
  | [], [], _ :: _, h => h.elim
  | [], _ :: _, _, h => h.elim
  | _ :: _, [], _, h => h.elim
  | _ :: _, [_], _, h => h.elim
  | _ :: _, _ :: _ :: _, [], h => h.elim
theorem ClO.ty {w : World} {B : Nat} : ∀ {gs : List Nat} {xs : List Value} {l : List Cl}, ClO w B gs xs l → ∀ g ∈ gs, ∃ cur, w.heap[g]? = some (.cells cur 35 (0, 0))
  | [], [], [], _ => by intro g h; cases h
  | g :: gs, _ :: _ :: xs, _ :: l, ⟨_, ⟨k, _, h3⟩, h4⟩ => by
    intro g' hg'
    rcases List.mem_cons.1 hg' with rfl | h
    · rcases h3.2 with ⟨h, _⟩ | ⟨g2, cap, cur, h, _, h2, _⟩
      · cases h
      · cases h; exact ⟨cur, h2⟩
    · exact ClO.ty h4 g' h
  | [], [], _ :: _, h => h.elim
  | [], _ :: _, _, h => h.elim
  | _ :: _, [], _, h => h.elim
  | _ :: _, [_], _, h => h.elim
  | _ :: _, _ :: _ :: _, [], h => h.elim
theorem own_ty {w : World} {base e size n c g : Nat} {xs : List Value} (h : w.ownsRow base e size (.slice (some ⟨g, 0, none⟩) n c) n xs) : ∃ cur, w.heap[g]? = some (.cells cur e (0, 0)) := by
  rcases h.2 with ⟨h, _⟩ | ⟨g2, cap, cur, h, _, h2, _⟩
  · cases h
  · cases h; exact ⟨cur, h2⟩
theorem ty_ne {w : World} {g g' : Nat} {e e' : TypeId} (h : ∃ cur, w.heap[g]? = some (.cells cur e (0, 0))) (h' : ∃ cur, w.heap[g']? = some (.cells cur e' (0, 0))) (he : e ≠ e') : g ≠ g' := by
  rintro rfl
  obtain ⟨c1, h1⟩ := h
  obtain ⟨c2, h2⟩ := h'
  rw [h1] at h2
  injection h2 with h3
  injection h3 with _ h4 _
  exact he h4
theorem ClO.app {w : World} {B : Nat} : ∀ {gs gs' : List Nat} {xs ys : List Value} {l m : List Cl}, ClO w B gs xs l → ClO w B gs' ys m → ClO w B (gs ++ gs') (xs ++ ys) (l ++ m)
  | [], _, [], _, [], _, _, hy => hy
  | g :: gs, _, _ :: _ :: xs, _, _ :: l, _, ⟨h1, h2, h4⟩, hy => ⟨h1, h2, ClO.app h4 hy⟩
  | [], _, [], _, _ :: _, _, h, _ => h.elim
  | [], _, _ :: _, _, _, _, h, _ => h.elim
  | _ :: _, _, [], _, _, _, h, _ => h.elim
  | _ :: _, _, [_], _, _, _, h, _ => h.elim
  | _ :: _, _, _ :: _ :: _, _, [], _, h, _ => h.elim
theorem ClO.toC {w : World} {B : Nat} : ∀ {gs : List Nat} {xs : List Value} {l : List Cl}, ClO w B gs xs l → ClC w xs l
  | [], [], [], _ => trivial
  | g :: gs, _ :: _ :: xs, _ :: l, ⟨h1, ⟨k, h2, h3⟩, h4⟩ => ⟨h1, ⟨_, k, h2, Rd.of_own h3⟩, ClO.toC h4⟩
  | [], [], _ :: _, h => h.elim
  | [], _ :: _, _, h => h.elim
  | _ :: _, [], _, h => h.elim
  | _ :: _, [_], _, h => h.elim
  | _ :: _, _ :: _ :: _, [], h => h.elim
theorem ClO.len {w : World} {B : Nat} {gs : List Nat} {xs : List Value} {l : List Cl} (h : ClO w B gs xs l) : xs.length = l.length * 2 := h.toC.len

/-- A case all of whose rows are the call's own. -/
def OwnCs (w : World) (B : Nat) (v : Value) (c : Cs) : Prop :=
  ∃ g1 k1 g2 k2 gs xs, v = .agg #[.int .i64 c.ev, .slice (some ⟨g1, 0, none⟩) c.bs.length k1, .int .i64 c.wi, .slice (some ⟨g2, 0, none⟩) c.cl.length k2] ∧
    w.ownsRow B 35 3 (.slice (some ⟨g1, 0, none⟩) c.bs.length k1) c.bs.length (bcells c.bs) ∧ w.ownsRow B 37 2 (.slice (some ⟨g2, 0, none⟩) c.cl.length k2) c.cl.length xs ∧ ClO w B gs xs c.cl ∧ (g1 :: gs).Nodup
theorem OwnCs.toR {w : World} {B : Nat} {v : Value} {c : Cs} (h : OwnCs w B v c) : CsR w v c := by
  obtain ⟨g1, k1, g2, k2, gs, xs, rfl, h1, h2, h3, _⟩ := h
  exact ⟨_, k1, _, k2, rfl, Rd.of_own h1, xs, Rd.of_own h2, h3.toC⟩
theorem OwnCs.ext {w w' : World} {B : Nat} {v : Value} {c : Cs} (h : OwnCs w B v c) (hx : Ext w w') : OwnCs w' B v c := by
  obtain ⟨g1, k1, g2, k2, gs, xs, rfl, h1, h2, h3, h4⟩ := h
  exact ⟨g1, k1, g2, k2, gs, xs, rfl, own_below h1 hx, own_below h2 hx, h3.ext hx, h4⟩

theorem ext_upx (w : World) : Up Ext (fun w' => Ext w w') := fun _ _ h k => h.trans k
theorem ClC.drop1 {w : World} : ∀ {xs : List Value} {x : Cl} {l : List Cl}, ClC w xs (x :: l) → ∃ A k ys, xs = .int .i64 x.w :: .slice A x.bs.length k :: ys ∧ Bounds w A x.bs ∧ ClC w ys l
  | a :: b :: ys, _, _, ⟨h1, ⟨A, k, h2, h3⟩, h4⟩ => ⟨A, k, ys, by rw [h1, h2], h3, h4⟩
  | [], _, _, h => h.elim
  | [_], _, _, h => h.elim
theorem ClC.nil_ {w : World} : ∀ {xs : List Value}, ClC w xs [] → xs = []
  | [], _ => rfl
  | [_], h => h.elim
  | _ :: _ :: _, h => h.elim
def OwnPost (w : World) (c : Cs) (e : Ending) (w' : World) : Prop := ∃ v, e = .returned v ∧ OwnCs w' w.heap.size v c ∧ Ext w w'

set_option maxRecDepth 100000 in
set_option maxHeartbeats 4000000 in
theorem own_any (v : Value) (c : Cs) (w : World) (hc : CsR w v c) (hl1 : c.bs.length * 24 ≤ 140737488355328) (hl2 : c.cl.length * 32 ≤ 140737488355328) (hl3 : ∀ x ∈ c.cl, x.bs.length * 24 ≤ 140737488355328) :
    Calls Try.prog 17 #[v] w (OwnPost w c) := by
  obtain ⟨A1, k1, A2, k2, rfl, hB, xs0, hR, hC0⟩ := hc
  have HL3 := hid hl3
  clear hl3
  go_enter Try.func17, Try.ntmps17
  go_wp2
  have x0 := Ext.alloc (Ext.alloc (Ext.refl w) (.cells #[.int .i64 c.ev, .slice A1 c.bs.length k1, .int .i64 c.wi, .slice A2 c.cl.length k2] 26)) (.cells #[.int .i64 0, .slice none 0 0, .int .i64 0, .slice none 0 0] 26)
  obtain ⟨W1, hW1⟩ : ∃ W1, (w.alloc (.cells #[.int .i64 c.ev, .slice A1 c.bs.length k1, .int .i64 c.wi, .slice A2 c.cl.length k2] 26)).alloc (.cells #[.int .i64 0, .slice none 0 0, .int .i64 0, .slice none 0 0] 26) = W1 := ⟨_, rfl⟩
  have G1 : Hid (W1.heap[w.heap.size]? = some (.cells #[.int .i64 c.ev, .slice A1 c.bs.length k1, .int .i64 c.wi, .slice A2 c.cl.length k2] 26 (0, 0))) := by
    unfold Hid; rw [← hW1]
    exact (Below.block (Ext.alloc (Ext.refl _) _) _ (by simp)).trans (heap_alloc_new w _)
  have G2 : Hid (W1.heap[w.heap.size + 1]? = some (.cells #[.int .i64 0, .slice none 0 0, .int .i64 0, .slice none 0 0] 26 (0, 0))) := by
    unfold Hid; rw [← hW1]
    have := heap_alloc_new (w.alloc (.cells #[.int .i64 c.ev, .slice A1 c.bs.length k1, .int .i64 c.wi, .slice A2 c.cl.length k2] 26)) (.cells #[.int .i64 0, .slice none 0 0, .int .i64 0, .slice none 0 0] 26)
    simpa using this
  have sW1 : W1.heap.size = w.heap.size + 2 := by rw [← hW1]; simp
  rw [hW1] at x0 ⊢
  clear hW1
  have p1 := block_cell (i := 1) G1.out
  have p3 := block_cell (i := 3) G1.out
  simp only [List.getElem?_toArray, List.getElem?_cons_zero, List.getElem?_cons_succ] at p1 p3
  have FX0 : ∀ w', Ext W1 w' → w'.cell? ⟨w.heap.size, 1, none⟩ = some (.slice A1 c.bs.length k1) ∧ w'.cell? ⟨w.heap.size, 3, none⟩ = some (.slice A2 c.cl.length k2) := fun w' h => ⟨h.cell p1, h.cell p3⟩
  have FX := hid FX0
  clear FX0 p1 p3
  refine wp_region_opens_tail Ext (fun w' => Ext W1 w') (fun | 2 => some (fun v w' => ∃ g q, v = .slice (some ⟨g, 0, none⟩) c.bs.length q ∧ w'.ownsRow w.heap.size 35 3 (.slice (some ⟨g, 0, none⟩) c.bs.length q) c.bs.length (bcells c.bs)) | 5 => some (fun v w' => ∃ g q, v = .slice (some ⟨g, 0, none⟩) c.cl.length q ∧ w'.ownsRow w.heap.size 37 2 (.slice (some ⟨g, 0, none⟩) c.cl.length q) c.cl.length xs0) | _ => none) 7 (by kernel_rfl) (by kernel_rfl) (ext_upx W1) ?hT (Ext.drew (Ext.refl _)) ?_
  case hT =>
    intro i R hR
    match i, hR with
    | 2, hR => cases hR; exact fun _ _ _ ⟨g, q, h1, h2⟩ k => ⟨g, q, h1, own_below h2 k⟩
    | 5, hR => cases hR; exact fun _ _ _ ⟨g, q, h1, h2⟩ k => ⟨g, q, h1, own_below h2 k⟩
  refine wpM_val ?u0 rfl rfl Ext.refl (fun w' hD => ?h0) ?n0
  case h0 =>
    obtain ⟨d0, d1⟩ := FX.out w' hD.1
    go_simp; rfl
  simp only [Act.put, List.setIfInBounds_toArray, List.set_cons_succ, List.set_cons_zero, Nat.reduceAdd]
  refine wpM_val ?u1 rfl rfl Ext.refl (fun w' hD => ?h1) ?n1
  case h1 =>
    obtain ⟨d0, d1⟩ := FX.out w' hD.1
    go_simp; rfl
  simp only [Act.put, List.setIfInBounds_toArray, List.set_cons_succ, List.set_cons_zero, Nat.reduceAdd]
  refine wpM_op _ rfl rfl (opens_call ?f2 ?g2 (fun w' hD => ?h2) (fun w' hD => ?c2)) (fun v2 hv2 => ?n2)
  case h2 => go_simp; constructor <;> rfl
  case c2 =>
    refine (dup_bound A1 k1 c.bs w' (hB.ext (x0.trans hD.1)) hl1).mono ?_
    rintro e w2 ⟨g, q, rfl, ho, hb⟩
    exact ⟨_, rfl, hb, g, q, rfl, own_base ho (x0.trans hD.1).size⟩
  obtain ⟨_, -, -, g1, q1, rfl, -⟩ := hv2
  simp only [Act.put, List.setIfInBounds_toArray, List.set_cons_succ, List.set_cons_zero, Nat.reduceAdd]
  refine wpM_val ?u3 rfl rfl Ext.refl (fun w' hD => ?h3) ?n3
  case h3 =>
    obtain ⟨d0, d1⟩ := FX.out w' hD.1
    go_simp; rfl
  simp only [Act.put, List.setIfInBounds_toArray, List.set_cons_succ, List.set_cons_zero, Nat.reduceAdd]
  refine wpM_val ?u4 rfl rfl Ext.refl (fun w' hD => ?h4) ?n4
  case h4 =>
    obtain ⟨d0, d1⟩ := FX.out w' hD.1
    go_simp; rfl
  simp only [Act.put, List.setIfInBounds_toArray, List.set_cons_succ, List.set_cons_zero, Nat.reduceAdd]
  refine wpM_op _ rfl rfl (opens_call ?f5 ?g5 (fun w' hD => ?h5) (fun w' hD => ?c5)) (fun v5 hv5 => ?n5)
  case h5 => go_simp; constructor <;> rfl
  case c5 =>
    refine (dup_claim A2 k2 c.cl xs0 w' (hR.ext (x0.trans hD.1)) hC0.len hC0.one hl2).mono ?_
    rintro e w2 ⟨g, q, rfl, ho, hb⟩
    exact ⟨_, rfl, hb, g, q, rfl, own_base ho (x0.trans hD.1).size⟩
  obtain ⟨_, -, -, g2, q2, rfl, -⟩ := hv5
  simp only [Act.put, List.setIfInBounds_toArray, List.set_cons_succ, List.set_cons_zero, Nat.reduceAdd]
  refine wpM_val ?u6 rfl rfl Ext.refl (fun w' hD => ?h6) ?n6
  case h6 =>
    obtain ⟨d0, d1⟩ := FX.out w' hD.1
    go_simp; rfl
  simp only [Act.put, List.setIfInBounds_toArray, List.set_cons_succ, List.set_cons_zero, Nat.reduceAdd]
  refine wpM_nil ?_
  intro w9 hw9 hF9
  obtain ⟨-, h1, q1', e1, o1⟩ := hF9 2
  cases e1
  obtain ⟨-, h2, q2', e2, o2⟩ := hF9 5
  cases e2
  clear hF9 FX
  have g9 := (Below.block hw9 w.heap.size (by rw [sW1]; omega)).trans G1.out
  have G29 := hid ((Below.block hw9 (w.heap.size + 1) (by rw [sW1]; omega)).trans G2.out)
  have s9 := hw9.size
  have p0 := block_cell (i := 0) g9
  have p1 := block_cell (i := 1) g9
  have p2 := block_cell (i := 2) g9
  have p3 := block_cell (i := 3) g9
  have pf := fun i => block_free (i := i) g9
  simp only [List.getElem?_toArray, List.getElem?_cons_zero, List.getElem?_cons_succ] at p0 p1 p2 p3
  have G9 := hid g9
  clear g9
  have x9 := x0.trans hw9
  have hT1 := own_ty o1
  have hT2 := own_ty o2
  have O1 := hid o1
  have O2 := hid o2
  have hg1 : w.heap.size + 2 ≤ g1 := by
    rcases Nat.lt_or_ge g1 (w.heap.size + 2) with h | h
    · exfalso
      have hb := (o1.lt g1 rfl).1
      have : g1 = w.heap.size ∨ g1 = w.heap.size + 1 := by omega
      rcases this with e | e
      · exact ty_ne hT1 (e' := 26) ⟨_, by rw [e]; exact G9.out⟩ (by decide) rfl
      · exact ty_ne hT1 (e' := 26) ⟨_, by rw [e]; exact G29.out⟩ (by decide) rfl
    · exact h
  have hg2 : w.heap.size + 2 ≤ g2 := by
    rcases Nat.lt_or_ge g2 (w.heap.size + 2) with h | h
    · exfalso
      have hb := (o2.lt g2 rfl).1
      have : g2 = w.heap.size ∨ g2 = w.heap.size + 1 := by omega
      rcases this with e | e
      · exact ty_ne hT2 (e' := 26) ⟨_, by rw [e]; exact G9.out⟩ (by decide) rfl
      · exact ty_ne hT2 (e' := 26) ⟨_, by rw [e]; exact G29.out⟩ (by decide) rfl
    · exact h
  clear o1 o2 hT1 hT2
  try simp only [List.drop_succ_cons, List.drop_zero]
  go_wp2
  have xs10 : BelS (fun k => k = w.heap.size) w9 ((w9.setCell ⟨w.heap.size, 1, none⟩ (.slice (some ⟨g1, 0, none⟩) c.bs.length q1)).setCell ⟨w.heap.size, 3, none⟩ (.slice (some ⟨g2, 0, none⟩) c.cl.length q2)) :=
    ((BelS.refl _ w9).setCell (S := fun k => k = w.heap.size) ⟨w.heap.size, 1, none⟩ _ rfl).setCell ⟨w.heap.size, 3, none⟩ _ rfl
  have G10 : Hid (((w9.setCell ⟨w.heap.size, 1, none⟩ (.slice (some ⟨g1, 0, none⟩) c.bs.length q1)).setCell ⟨w.heap.size, 3, none⟩ (.slice (some ⟨g2, 0, none⟩) c.cl.length q2)).heap[w.heap.size]? = some (.cells #[.int .i64 c.ev, .slice (some ⟨g1, 0, none⟩) c.bs.length q1, .int .i64 c.wi, .slice (some ⟨g2, 0, none⟩) c.cl.length q2] 26 (0, 0))) := by
    have := heap_set (heap_set G9.out (i := 1) (.slice (some ⟨g1, 0, none⟩) c.bs.length q1)) (i := 3) (.slice (some ⟨g2, 0, none⟩) c.cl.length q2)
    unfold Hid; simpa using this
  generalize hW10 : (w9.setCell ⟨w.heap.size, 1, none⟩ (.slice (some ⟨g1, 0, none⟩) c.bs.length q1)).setCell ⟨w.heap.size, 3, none⟩ (.slice (some ⟨g2, 0, none⟩) c.cl.length q2) = W10 at xs10 G10 ⊢
  have x10 : Ext w W10 := by rw [← hW10]; exact (x9.setCell (Nat.le_refl _) _).setCell (Nat.le_refl _) _
  clear hW10
  have G20 := hid (xs10.heap G29.out (by omega))
  have O1 := hid (xs10.own O1.out (fun k e h => by have h2 : g1 = k := Option.some.inj e; omega))
  have O2 := hid (xs10.own O2.out (fun k e h => by have h2 : g2 = k := Option.some.inj e; omega))
  clear G9 G29 p0 p1 p2 p3 pf x9 hw9 xs10 G1 G2 x0 sW1 s9
  have HND0 : Hid ((g1 :: ([] : List Nat)).Nodup) := by unfold Hid; simp
  have HR0 : Hid (ClC w xs0 (c.cl.drop 0)) := hC0
  go_loopw [16] (fun i wr => ∃ (k : Nat) (gs : List Nat) (xd xr : List Value), i = .int .i64 (k : Int) ∧ k ≤ c.cl.length ∧ Hid (xd.length = k * 2) ∧ Hid (wr.ownsRow w.heap.size 37 2 (.slice (some ⟨g2, 0, none⟩) c.cl.length q2) c.cl.length (xd ++ xr)) ∧ Hid (ClO wr w.heap.size gs xd (c.cl.take k)) ∧ Hid (ClC w xr (c.cl.drop k)) ∧
      Hid (wr.ownsRow w.heap.size 35 3 (.slice (some ⟨g1, 0, none⟩) c.bs.length q1) c.bs.length (bcells c.bs)) ∧ Hid ((g1 :: gs).Nodup) ∧ Ext w wr ∧
      Hid (wr.heap[w.heap.size]? = some (.cells #[.int .i64 c.ev, .slice (some ⟨g1, 0, none⟩) c.bs.length q1, .int .i64 c.wi, .slice (some ⟨g2, 0, none⟩) c.cl.length q2] 26 (0, 0))) ∧ Hid (wr.heap[w.heap.size + 1]? = some (.cells #[.int .i64 0, .slice none 0 0, .int .i64 0, .slice none 0 0] 26 (0, 0)))) (fun i _ => c.cl.length - (intOf i).toNat)
  case atStart => exact ⟨0, [], [], xs0, rfl, Nat.zero_le _, rfl, O2, trivial, HR0, O1, HND0, x10, G10, G20⟩
  case round =>
    obtain ⟨k, gs, xd, xr, rfl, hk, HXD, O2, HCO, HCR, O1, HND, hx, G10, G20⟩ := hrel
    by_cases hlt : k < c.cl.length
    · have hlt' : (k : Int) < (c.cl.length : Int) := by omega
      obtain ⟨x, hxk⟩ := get_of_lt c.cl k hlt
      have hdk : c.cl.drop k = x :: c.cl.drop (k + 1) := by rw [List.drop_eq_getElem_cons hlt, (List.getElem?_eq_some_iff.1 hxk).2]
      have htk : c.cl.take (k + 1) = c.cl.take k ++ [x] := by rw [List.take_succ_eq_append_getElem hlt, (List.getElem?_eq_some_iff.1 hxk).2]
      have hcr := HCR.out
      rw [hdk] at hcr
      obtain ⟨A3, k3, ys, rfl, hBx, hys⟩ := hcr.drop1
      have hl3 := HL3.out x (mem_of_get hxk)
      have HTK := hid htk
      have HYS : Hid (ClC w ys (c.cl.drop (k + 1))) := hys
      have c0 := O2.out.cellAt (k * 2) (by omega)
      have c1 := O2.out.cellAt (k * 2 + 1) (by omega)
      rw [List.getElem?_append_right (by rw [HXD.out]; omega), HXD.out, show k * 2 - k * 2 = 0 by omega] at c0
      rw [List.getElem?_append_right (by rw [HXD.out]; omega), HXD.out, show k * 2 + 1 - k * 2 = 1 by omega] at c1
      simp only [List.getElem?_cons_zero, List.getElem?_cons_succ] at c0 c1
      have p3 := block_cell (i := 3) G10.out
      simp only [List.getElem?_toArray, List.getElem?_cons_zero, List.getElem?_cons_succ] at p3
      have hws := hx.size
      clear hdk htk hcr hys HCR hxk
      go_wp2
      have xo := Ext.alloc (Ext.refl wr) (.cells #[.int .i64 x.w, .slice A3 x.bs.length k3] 37)
      have q1' : (wr.alloc (.cells #[.int .i64 x.w, .slice A3 x.bs.length k3] 37)).cell? ⟨wr.heap.size, 1, none⟩ = some (.slice A3 x.bs.length k3) := by simp [go_sem]
      have hso : wr.heap.size + 1 ≤ (wr.alloc (.cells #[.int .i64 x.w, .slice A3 x.bs.length k3] 37)).heap.size := by simp
      generalize hWo : wr.alloc (.cells #[.int .i64 x.w, .slice A3 x.bs.length k3] 37) = Wo at xo q1' hso ⊢
      clear hWo c0 c1
      have FX0 : ∀ w', Ext Wo w' → w'.cell? ⟨w.heap.size, 3, none⟩ = some (.slice (some ⟨g2, 0, none⟩) c.cl.length q2) ∧ w'.cell? ⟨wr.heap.size, 1, none⟩ = some (.slice A3 x.bs.length k3) := fun w' h => ⟨h.cell (xo.cell p3), h.cell q1'⟩
      have FX := hid FX0
      clear FX0 p3 q1'
      refine wp_region_opens_tail Ext (fun w' => Ext Wo w') (fun | 5 => some (fun v w' => ∃ g q, v = .slice (some ⟨g, 0, none⟩) x.bs.length q ∧ w'.ownsRow (wr.heap.size + 1) 35 3 (.slice (some ⟨g, 0, none⟩) x.bs.length q) x.bs.length (bcells x.bs)) | _ => none) 6 (by kernel_rfl) (by kernel_rfl) (ext_upx Wo) ?hTb (Ext.drew (Ext.refl _)) ?_
      case hTb =>
        intro i R hR
        match i, hR with
        | 5, hR => cases hR; exact fun _ _ _ ⟨g, q, h1, h2⟩ k => ⟨g, q, h1, own_below h2 k⟩
      refine wpM_val ?ub0 rfl rfl Ext.refl (fun w' hD => ?hb0) ?nb0
      case hb0 =>
        obtain ⟨d0, d1⟩ := FX.out w' hD.1
        go_simp; rfl
      simp only [Act.put, List.setIfInBounds_toArray, List.set_cons_succ, List.set_cons_zero, Nat.reduceAdd]
      refine wpM_val ?ub1 rfl rfl Ext.refl (fun w' hD => ?hb1) ?nb1
      case hb1 =>
        obtain ⟨d0, d1⟩ := FX.out w' hD.1
        go_simp; rfl
      simp only [Act.put, List.setIfInBounds_toArray, List.set_cons_succ, List.set_cons_zero, Nat.reduceAdd]
      refine wpM_val ?ub2 rfl rfl Ext.refl (fun w' hD => ?hb2) ?nb2
      case hb2 =>
        obtain ⟨d0, d1⟩ := FX.out w' hD.1
        go_simp; rfl
      simp only [Act.put, List.setIfInBounds_toArray, List.set_cons_succ, List.set_cons_zero, Nat.reduceAdd]
      refine wpM_val ?ub3 rfl rfl Ext.refl (fun w' hD => ?hb3) ?nb3
      case hb3 =>
        obtain ⟨d0, d1⟩ := FX.out w' hD.1
        go_simp; rfl
      simp only [Act.put, List.setIfInBounds_toArray, List.set_cons_succ, List.set_cons_zero, Nat.reduceAdd]
      refine wpM_val ?ub4 rfl rfl Ext.refl (fun w' hD => ?hb4) ?nb4
      case hb4 =>
        obtain ⟨d0, d1⟩ := FX.out w' hD.1
        go_simp; rfl
      simp only [Act.put, List.setIfInBounds_toArray, List.set_cons_succ, List.set_cons_zero, Nat.reduceAdd]
      refine wpM_op _ rfl rfl (opens_call ?fb5 ?gb5 (fun w' hD => ?hb5) (fun w' hD => ?cb5)) (fun v5 hv5 => ?nb5)
      case hb5 => go_simp; constructor <;> rfl
      case cb5 =>
        refine (dup_bound A3 k3 x.bs w' ((hBx.ext hx).ext ((xo.trans hD.1))) (by omega)).mono ?_
        rintro e w2 ⟨g, q, rfl, ho, hb⟩
        exact ⟨_, rfl, hb, g, q, rfl, own_base ho (Nat.le_trans hso hD.1.size)⟩
      obtain ⟨_, -, -, g3, q3, rfl, -⟩ := hv5
      simp only [Act.put, List.setIfInBounds_toArray, List.set_cons_succ, List.set_cons_zero, Nat.reduceAdd]
      refine wpM_nil ?_
      intro w9 hw9 hF9
      obtain ⟨-, h3, q3', e3, o3⟩ := hF9 5
      cases e3
      clear hF9 FX
      have x9 := xo.trans hw9
      have O29 := hid (own_below O2.out x9)
      have hf := O29.out.frozenAt
      have hfk := hf (k * 2 + 1)
      have hck := O29.out.cellAt (k * 2 + 1) (by omega)
      rw [List.getElem?_append_right (by rw [HXD.out]; omega), HXD.out, show k * 2 + 1 - k * 2 = 1 by omega] at hck
      simp only [List.getElem?_cons_zero, List.getElem?_cons_succ] at hck
      have hT2 := own_ty O29.out
      have hT3 := own_ty o3
      have h32 : g3 ≠ g2 := ty_ne hT3 hT2 (by decide)
      have h12 : g1 ≠ g2 := ty_ne (own_ty (own_below O1.out x9)) hT2 (by decide)
      have hgb := (o3.lt g3 rfl).1
      have hgl := HCO.out.lt
      have hgt := HCO.out.ty
      have hg1lt := (O1.out.lt g1 rfl).2
      have O3 := hid o3
      clear hf o3 hT2 hT3
      try simp only [List.drop_succ_cons, List.drop_zero]
      go_wp2
      have st := O29.out.stored (k * 2 + 1) (.slice (some ⟨g3, 0, none⟩) x.bs.length q3)
      have xg : BelS (fun i => i = g2) w9 (w9.setCell ⟨g2, k * 2 + 1, none⟩ (.slice (some ⟨g3, 0, none⟩) x.bs.length q3)) := BelS.setCell (S := fun i => i = g2) (BelS.refl _ w9) _ _ rfl
      generalize hWf : w9.setCell ⟨g2, k * 2 + 1, none⟩ (.slice (some ⟨g3, 0, none⟩) x.bs.length q3) = Wf at st xg ⊢
      have xf : Ext w Wf := by rw [← hWf]; exact (hx.trans x9).setCell (by show w.heap.size ≤ g2; omega) _
      clear hWf
      have N2 : Hid (Wf.ownsRow w.heap.size 37 2 (.slice (some ⟨g2, 0, none⟩) c.cl.length q2) c.cl.length ((xd ++ [.int .i64 x.w, .slice (some ⟨g3, 0, none⟩) x.bs.length q3]) ++ ys)) := by
        have h1 := st.1
        rw [List.set_append_right _ _ (by rw [HXD.out]; omega), HXD.out, show k * 2 + 1 - k * 2 = 1 by omega] at h1
        unfold Hid
        simpa using h1
      have N1 : Hid (Wf.ownsRow w.heap.size 35 3 (.slice (some ⟨g1, 0, none⟩) c.bs.length q1) c.bs.length (bcells c.bs)) :=
        xg.own (own_below O1.out x9) (fun i e h => by have h2 : g1 = i := Option.some.inj e; omega)
      have NC : Hid (ClO Wf w.heap.size (gs ++ [g3]) (xd ++ [.int .i64 x.w, .slice (some ⟨g3, 0, none⟩) x.bs.length q3]) (c.cl.take (k + 1))) := by
        unfold Hid
        rw [HTK.out]
        refine ClO.app (gs' := [g3]) (m := [x]) ((HCO.out.ext x9).belS xg (fun g hg e => ?_)) ⟨rfl, ⟨q3, rfl, ?_⟩, trivial⟩
        · subst e
          obtain ⟨cur, hcur⟩ := hgt g hg
          exact ty_ne ⟨cur, hcur⟩ (own_ty O2.out) (by decide) rfl
        · exact own_base (xg.own O3.out (fun i e h => by have h2 : g3 = i := Option.some.inj e; omega)) (by omega)
      have NN : Hid ((g1 :: (gs ++ [g3])).Nodup) := by
        unfold Hid
        have h0 := HND.out
        rw [List.nodup_cons] at h0 ⊢
        refine ⟨fun hm => ?_, ?_⟩
        · rcases List.mem_append.1 hm with h | h
          · exact h0.1 h
          · have : g1 = g3 := by simpa using h
            omega
        · rw [List.nodup_append]
          refine ⟨h0.2, by simp, fun a ha b hb e => ?_⟩
          have h1 := hgl a ha
          have h2 : b = g3 := by simpa using hb
          omega
      have NX : Hid ((xd ++ [Value.int .i64 x.w, Value.slice (some ⟨g3, 0, none⟩) x.bs.length q3]).length = (k + 1) * 2) := by unfold Hid; simp [HXD.out]; omega
      have NG1 := hid (xg.heap ((Below.block x9 _ (World.block_lt_of_cell? wr ⟨w.heap.size, 0, none⟩ (by rw [block_cell G10.out]; rfl))).trans G10.out) (fun e => by have e2 : w.heap.size = g2 := e; omega))
      have NG2 := hid (xg.heap ((Below.block x9 _ (World.block_lt_of_cell? wr ⟨w.heap.size + 1, 0, none⟩ (by rw [block_cell G20.out]; rfl))).trans G20.out) (fun e => by have e2 : w.heap.size + 1 = g2 := e; omega))
      clear st xg hck hfk HCO HTK HND HXD O29 O1 O2 O3 G10 G20 hx x9 hw9 xo hgl hgt
      go_wp2
      go_roundw
      case rel => exact ⟨k + 1, gs ++ [g3], xd ++ [.int .i64 x.w, .slice (some ⟨g3, 0, none⟩) x.bs.length q3], ys, by go_num, by omega, NX, N2, NC, HYS, N1, NN, xf, NG1, NG2⟩
      case measure => simp [intOf]; omega
    · have hlt' : ¬ (k : Int) < (c.cl.length : Int) := by omega
      have p0 := block_cell (i := 0) G10.out
      have p1 := block_cell (i := 1) G10.out
      have p2 := block_cell (i := 2) G10.out
      have p3 := block_cell (i := 3) G10.out
      have r0 := block_cell (i := 0) G20.out
      have r1 := block_cell (i := 1) G20.out
      have r2 := block_cell (i := 2) G20.out
      have r3 := block_cell (i := 3) G20.out
      have rf := fun i => block_free (i := i) G20.out
      simp only [List.getElem?_toArray, List.getElem?_cons_zero, List.getElem?_cons_succ] at p0 p1 p2 p3 r0 r1 r2 r3
      have hxr : xr = [] := by
        have := HCR.out
        rw [List.drop_eq_nil_of_le (by omega)] at this
        exact this.nil_
      subst hxr
      have htk : c.cl.take k = c.cl := List.take_of_length_le (by omega)
      have HTK := hid htk
      clear htk
      go_wp2
      have xg : BelS (fun i => i = w.heap.size + 1) wr ((((wr.setCell ⟨w.heap.size + 1, 0, none⟩ (.int .i64 c.ev)).setCell ⟨w.heap.size + 1, 1, none⟩ (.slice (some ⟨g1, 0, none⟩) c.bs.length q1)).setCell ⟨w.heap.size + 1, 2, none⟩ (.int .i64 c.wi)).setCell ⟨w.heap.size + 1, 3, none⟩ (.slice (some ⟨g2, 0, none⟩) c.cl.length q2)) :=
        ((((BelS.refl _ wr).setCell (S := fun i => i = w.heap.size + 1) ⟨w.heap.size + 1, 0, none⟩ _ rfl).setCell ⟨w.heap.size + 1, 1, none⟩ _ rfl).setCell ⟨w.heap.size + 1, 2, none⟩ _ rfl).setCell ⟨w.heap.size + 1, 3, none⟩ _ rfl
      have xf : Ext w ((((wr.setCell ⟨w.heap.size + 1, 0, none⟩ (.int .i64 c.ev)).setCell ⟨w.heap.size + 1, 1, none⟩ (.slice (some ⟨g1, 0, none⟩) c.bs.length q1)).setCell ⟨w.heap.size + 1, 2, none⟩ (.int .i64 c.wi)).setCell ⟨w.heap.size + 1, 3, none⟩ (.slice (some ⟨g2, 0, none⟩) c.cl.length q2)) :=
        (((hx.setCell (by show w.heap.size ≤ w.heap.size + 1; omega) _).setCell (by show w.heap.size ≤ w.heap.size + 1; omega) _).setCell (by show w.heap.size ≤ w.heap.size + 1; omega) _).setCell (by show w.heap.size ≤ w.heap.size + 1; omega) _
      have hgt := HCO.out.ty
      have hcl := HCO.out
      rw [HTK.out] at hcl
      have ho2 := O2.out
      rw [List.append_nil] at ho2
      refine bodyPost_ret (v := .agg #[.int .i64 c.ev, .slice (some ⟨g1, 0, none⟩) c.bs.length q1, .int .i64 c.wi, .slice (some ⟨g2, 0, none⟩) c.cl.length q2]) ?res rfl
        ⟨_, rfl, ⟨g1, q1, g2, q2, gs, xd, rfl, xg.own O1.out ?zn1, xg.own ho2 ?zn2, hcl.belS xg ?zn3, HND.out⟩, xf⟩
      case res => simp [results, Try.results17, go_sem, r0, r1, r2, r3]
      case zn1 => exact fun i e h => by have h2 : g1 = i := Option.some.inj e; omega
      case zn2 => exact fun i e h => by have h2 : g2 = i := Option.some.inj e; omega
      case zn3 =>
        intro g hg e
        obtain ⟨cur, hcur⟩ := hgt g hg
        exact ty_ne ⟨cur, hcur⟩ (e' := 26) ⟨_, by rw [e]; exact G20.out⟩ (by decide) rfl
end Go.Proofs.Ytgnjhaomlbkgcaa
