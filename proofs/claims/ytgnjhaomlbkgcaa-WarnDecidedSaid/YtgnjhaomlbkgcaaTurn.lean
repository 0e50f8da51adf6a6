/- The walk of WarnShifted's own function that changes a case's bounds. Printed by my gen_turn.py. -/
import Derived.Test.YtgnjhaomlbkgcaaOwn
import Derived.Test.YtgnjhaomlbkgcaaShift1
namespace Go.Proofs.Ytgnjhaomlbkgcaa
open Go Go.RowKit Go.Shelf
set_option linter.unusedVariables false
set_option linter.unusedSimpArgs false

theorem bcells_set : ∀ (l : List Bd) (k : Nat) (y : Bd), k < l.length → (((bcells l).set (k * 3) (.int .i64 y.f)).set (k * 3 + 1) (.int .i64 y.t)).set (k * 3 + 2) (.int .i64 y.m) = bcells (l.set k y) := by
  intro l
  induction l with
  | nil => intro k y h; simp at h
  | cons b l ih =>
    intro k y h
    cases k with
    | zero => simp [bcells]
    | succ k =>
      have e : (k + 1) * 3 = k * 3 + 1 + 1 + 1 := by omega
      have := ih k y (by simpa using h)
      rw [e]
      simp only [bcells, List.set_cons_succ, List.set_cons_succ]
      rw [← this]
theorem own_set3 {w : World} {B g n q k : Nat} {L : List Bd} {x : Bd} (h : w.ownsRow B 35 3 (.slice (some ⟨g, 0, none⟩) n q) n (bcells L)) (hk : L[k]? = some x) (y : Bd) :
    (((w.setCell ⟨g, k * 3, none⟩ (.int .i64 y.f)).setCell ⟨g, k * 3 + 1, none⟩ (.int .i64 y.t)).setCell ⟨g, k * 3 + 2, none⟩ (.int .i64 y.m)).ownsRow B 35 3 (.slice (some ⟨g, 0, none⟩) n q) n (bcells (L.set k y)) ∧
      BelS (fun i => i = g) w (((w.setCell ⟨g, k * 3, none⟩ (.int .i64 y.f)).setCell ⟨g, k * 3 + 1, none⟩ (.int .i64 y.t)).setCell ⟨g, k * 3 + 2, none⟩ (.int .i64 y.m)) := by
  have h1 := (h.stored (k * 3) (.int .i64 y.f)).1
  have h2 := (h1.stored (k * 3 + 1) (.int .i64 y.t)).1
  have h3 := (h2.stored (k * 3 + 2) (.int .i64 y.m)).1
  rw [bcells_set L k y (List.getElem?_eq_some_iff.1 hk).1] at h3
  exact ⟨h3, (((BelS.refl _ w).setCell (S := fun i => i = g) ⟨g, k * 3, none⟩ _ rfl).setCell ⟨g, k * 3 + 1, none⟩ _ rfl).setCell ⟨g, k * 3 + 2, none⟩ _ rfl⟩
theorem set_map_drop (f : Bd → Bd) {l : List Bd} {k : Nat} {x : Bd} (hk : l[k]? = some x) : ((l.take k).map f ++ l.drop k).set k (f x) = (l.take (k + 1)).map f ++ l.drop (k + 1) := by
  have hlt := (List.getElem?_eq_some_iff.1 hk).1
  have hx := (List.getElem?_eq_some_iff.1 hk).2
  rw [List.set_append_right _ _ (by simp; omega), List.drop_eq_getElem_cons hlt, hx, List.take_succ_eq_append_getElem hlt, hx]
  simp [Nat.min_eq_left (Nat.le_of_lt hlt)]
theorem ClO.drop1 {w : World} {B : Nat} : ∀ {gs : List Nat} {xs : List Value} {x : Cl} {l : List Cl}, ClO w B gs xs (x :: l) → ∃ g gs' k ys, gs = g :: gs' ∧ xs = .int .i64 x.w :: .slice (some ⟨g, 0, none⟩) x.bs.length k :: ys ∧
    w.ownsRow B 35 3 (.slice (some ⟨g, 0, none⟩) x.bs.length k) x.bs.length (bcells x.bs) ∧ ClO w B gs' ys l
  | g :: gs, _ :: _ :: ys, _, _, ⟨h1, ⟨k, h2, h3⟩, h4⟩ => ⟨g, gs, k, ys, rfl, by rw [h1, h2], h3, h4⟩
  | [], [], _, _, h => h.elim
  | [], _ :: _, _, _, h => h.elim
  | _ :: _, [], _, _, h => h.elim
  | _ :: _, [_], _, _, h => h.elim
theorem ClO.nil_ {w : World} {B : Nat} : ∀ {gs : List Nat} {xs : List Value}, ClO w B gs xs [] → gs = [] ∧ xs = []
  | [], [], _ => ⟨rfl, rfl⟩
  | [], _ :: _, h => h.elim
  | _ :: _, [], h => h.elim
  | _ :: _, [_], h => h.elim
  | _ :: _, _ :: _ :: _, h => h.elim
def mapCl (f : Bd → Bd) (x : Cl) : Cl := { x with bs := x.bs.map f }
def TurnPost (w : World) (c : Cs) (f : Bd → Bd) (e : Ending) (w' : World) : Prop := ∃ v, e = .returned v ∧ CsR w' v (c.map f) ∧ Ext w w'

set_option maxRecDepth 100000 in
set_option maxHeartbeats 8000000 in
theorem turn_any (fv : Value) (f : Bd → Bd) (S : Bd → Prop) (Bc : Nat) (A1 : Option Addr) (k1 : Nat) (A2 : Option Addr) (k2 : Nat) (c : Cs) (w : World) (p0 : w.cell? ⟨Bc, 0, none⟩ = some (.int .i64 c.ev)) (p1 : w.cell? ⟨Bc, 1, none⟩ = some (.slice A1 c.bs.length k1))
    (p2 : w.cell? ⟨Bc, 2, none⟩ = some (.int .i64 c.wi)) (p3 : w.cell? ⟨Bc, 3, none⟩ = some (.slice A2 c.cl.length k2)) (hB : Bounds w A1 c.bs) (hC : Claims w A2 c.cl) (hfv : MapB Try.prog fv w S f) (hS : ∀ b ∈ c.all, S b)
    (l1 : c.bs.length ≤ 100) (l2 : c.cl.length ≤ 100) (l3 : ∀ x ∈ c.cl, x.bs.length ≤ 100) :
    Calls Try.prog 16 #[fv, .pointer (some ⟨Bc, 0, none⟩)] w (TurnPost w c f) := by
  obtain ⟨gf, fst, lb, rfl, eg, hcall⟩ := hfv
  have HCALL := hid hcall
  have HSC := hid hS
  have HL3 := hid l3
  clear hcall hS l3
  have q0 := fun o => (Ext.alloc (Ext.refl w) o).cell p0
  have q1 := fun o => (Ext.alloc (Ext.refl w) o).cell p1
  have q2 := fun o => (Ext.alloc (Ext.refl w) o).cell p2
  have q3 := fun o => (Ext.alloc (Ext.refl w) o).cell p3
  go_enter Try.func16, Try.ntmps16
  go_wp2_with fail
  have x0 := Ext.alloc (Ext.refl w) (.cells #[.int .i64 0, .slice none 0 0, .int .i64 0, .slice none 0 0] 26)
  have G0 := hid (heap_alloc_new w (.cells #[.int .i64 0, .slice none 0 0, .int .i64 0, .slice none 0 0] 26))
  have hsz0 : (w.alloc (.cells #[.int .i64 0, .slice none 0 0, .int .i64 0, .slice none 0 0] 26)).heap.size = w.heap.size + 1 := by simp
  refine (own_any _ c _ ⟨A1, k1, A2, k2, rfl, hB.ext x0, hC.ext x0⟩ (by omega) (by omega) (fun x hx => by have := HL3.out x hx; omega)).mono ?_
  rintro e w2 ⟨v, rfl, ⟨g1, m1, g2, m2, gs, xs, rfl, o1, o2, hco, hnd⟩, hx2⟩
  have G0 := hid ((Below.block hx2 _ (by rw [hsz0]; omega)).trans G0.out)
  rw [hsz0] at o1 o2 hco
  obtain ⟨B, hB0⟩ : ∃ B, w.heap.size + 1 = B := ⟨_, rfl⟩
  have HB := hid hB0
  rw [hB0] at o1 o2 hco
  clear hB0 q0 q1 q2 q3 hsz0
  have x2 := x0.trans hx2
  have O1 := hid o1
  have O2 := hid o2
  have HCO := hid hco
  have HND := hid hnd
  have hg1 := (o1.lt g1 rfl)
  have hg2 := (o2.lt g2 rfl)
  have hgs := hid hco.lt
  clear x0 hx2 o1 o2 hco hnd
  go_wp2
  have x3 := x2.alloc (.cells #[.int .i64 c.ev, .slice (some ⟨g1, 0, none⟩) c.bs.length m1, .int .i64 c.wi, .slice (some ⟨g2, 0, none⟩) c.cl.length m2] 26)
  have xn := Ext.alloc (Ext.refl w2) (.cells #[.int .i64 c.ev, .slice (some ⟨g1, 0, none⟩) c.bs.length m1, .int .i64 c.wi, .slice (some ⟨g2, 0, none⟩) c.cl.length m2] 26)
  have GU := hid (heap_alloc_new w2 (.cells #[.int .i64 c.ev, .slice (some ⟨g1, 0, none⟩) c.bs.length m1, .int .i64 c.wi, .slice (some ⟨g2, 0, none⟩) c.cl.length m2] 26))
  have hs2 := x2.size
  generalize hW3 : w2.alloc (.cells #[.int .i64 c.ev, .slice (some ⟨g1, 0, none⟩) c.bs.length m1, .int .i64 c.wi, .slice (some ⟨g2, 0, none⟩) c.cl.length m2] 26) = W3 at x3 xn GU ⊢
  clear hW3
  generalize hBu : w2.heap.size = Bu at *
  have HBu := hid hBu
  clear hBu
  have hB1 : B = w.heap.size + 1 := HB.out.symm
  have hBw : w.heap.size < B := by omega
  have HB1 := hid hB1
  clear hB1
  have G0 := hid ((Below.block xn w.heap.size (by have := HBu.out; omega)).trans G0.out)
  have O1 := hid (own_below O1.out xn)
  have O2 := hid (own_below O2.out xn)
  have HCO := hid (HCO.out.ext xn)
  have xa : Ext w W3 := x3
  have HNE12 : Hid (g1 ≠ g2) := ty_ne (own_ty O1.out) (own_ty O2.out) (by decide)
  have HMEMa : Hid (∀ x ∈ c.bs, S x) := fun x hx => HSC.out x (all_mem.2 (.inl hx))
  have hg1b : g1 < Bu := by have := HBu.out; omega
  have hg2b : g2 < Bu := by have := HBu.out; omega
  have hgsb : Hid (∀ g ∈ gs, B ≤ g ∧ g < Bu) := fun g hg => by have := hgs.out g hg; have := HBu.out; omega
  clear xn x3 x2 hgs
  go_loopw [16] (fun i wr => ∃ k : Nat, i = .int .i64 (k : Int) ∧ k ≤ c.bs.length ∧ Hid (wr.ownsRow B 35 3 (.slice (some ⟨g1, 0, none⟩) c.bs.length m1) c.bs.length (bcells ((c.bs.take k).map f ++ c.bs.drop k))) ∧ Ext w wr ∧ BelS (fun i => i = g1) W3 wr) (fun i _ => c.bs.length - (intOf i).toNat)
  case atStart => exact ⟨0, rfl, Nat.zero_le _, by unfold Hid; simpa using O1.out, xa, BelS.refl _ _⟩
  case round =>
    obtain ⟨k, rfl, hk, O, hx, hbs⟩ := hrel
    by_cases hlt : k < c.bs.length
    · have hlt' : (k : Int) < (c.bs.length : Int) := by omega
      obtain ⟨x, hxk⟩ := get_of_lt c.bs k hlt
      have hLk : ((c.bs.take k).map f ++ c.bs.drop k)[k]? = some x := by
        rw [List.getElem?_append_right (by simp; omega)]; simp [Nat.min_eq_left hk, hxk]
      obtain ⟨e0, e1, e2⟩ := bcells_get _ k x hLk
      have hlen3 : k * 3 + 2 < c.bs.length * 3 := by omega
      have c0 := (O.out.cellAt (k * 3) (by omega)).trans e0
      have c1 := (O.out.cellAt (k * 3 + 1) (by omega)).trans e1
      have c2 := (O.out.cellAt (k * 3 + 2) (by omega)).trans e2
      have HLK := hid hLk
      have pB := block_cell (i := 1) (hbs.heap GU.out (by show ¬ Bu = g1; omega))
      simp only [List.getElem?_toArray, List.getElem?_cons_zero, List.getElem?_cons_succ] at pB
      clear e0 e1 e2 hLk
      go_wp2
      have xo := Ext.alloc (Ext.refl wr) (.cells #[.int .i64 x.f, .int .i64 x.t, .int .i64 x.m] 35)
      have n0 : (wr.alloc (.cells #[.int .i64 x.f, .int .i64 x.t, .int .i64 x.m] 35)).cell? ⟨wr.heap.size, 0, none⟩ = some (.int .i64 x.f) := by simp [go_sem]
      have n1 : (wr.alloc (.cells #[.int .i64 x.f, .int .i64 x.t, .int .i64 x.m] 35)).cell? ⟨wr.heap.size, 1, none⟩ = some (.int .i64 x.t) := by simp [go_sem]
      have n2 : (wr.alloc (.cells #[.int .i64 x.f, .int .i64 x.t, .int .i64 x.m] 35)).cell? ⟨wr.heap.size, 2, none⟩ = some (.int .i64 x.m) := by simp [go_sem]
      generalize hWo : wr.alloc (.cells #[.int .i64 x.f, .int .i64 x.t, .int .i64 x.m] 35) = Wo at xo n0 n1 n2 ⊢
      clear hWo c0 c1 c2
      have FX0 : ∀ w', Ext Wo w' → w'.cell? ⟨Bu, 1, none⟩ = some (.slice (some ⟨g1, 0, none⟩) c.bs.length m1) ∧ w'.cell? ⟨wr.heap.size, 0, none⟩ = some (.int .i64 x.f) ∧ w'.cell? ⟨wr.heap.size, 1, none⟩ = some (.int .i64 x.t) ∧ w'.cell? ⟨wr.heap.size, 2, none⟩ = some (.int .i64 x.m) :=
        fun w' h => ⟨h.cell (xo.cell pB), h.cell n0, h.cell n1, h.cell n2⟩
      have FX := hid FX0
      clear FX0 pB n0 n1 n2
      refine wp_region_opens_tail Ext (fun w' => Ext Wo w') (fun | 5 => some (fun v _ => v = (f x).val) | _ => none) 6 (by kernel_rfl) (by kernel_rfl) (ext_upx Wo) ?hTa (Ext.drew (Ext.refl _)) ?_
      case hTa =>
        intro i R hR
        match i, hR with
        | 5, hR => cases hR; exact fun _ _ _ h _ => h
      refine wpM_val ?ua0 rfl rfl Ext.refl (fun w' hD => ?ha0) ?na0
      case ha0 =>
        obtain ⟨d0, d1, d2, d3⟩ := FX.out w' hD.1
        go_simp; rfl
      simp only [Act.put, List.setIfInBounds_toArray, List.set_cons_succ, List.set_cons_zero, Nat.reduceAdd]
      refine wpM_val ?ua1 rfl rfl Ext.refl (fun w' hD => ?ha1) ?na1
      case ha1 =>
        obtain ⟨d0, d1, d2, d3⟩ := FX.out w' hD.1
        go_simp; rfl
      simp only [Act.put, List.setIfInBounds_toArray, List.set_cons_succ, List.set_cons_zero, Nat.reduceAdd]
      refine wpM_val ?ua2 rfl rfl Ext.refl (fun w' hD => ?ha2) ?na2
      case ha2 =>
        obtain ⟨d0, d1, d2, d3⟩ := FX.out w' hD.1
        go_simp; rfl
      simp only [Act.put, List.setIfInBounds_toArray, List.set_cons_succ, List.set_cons_zero, Nat.reduceAdd]
      refine wpM_val ?ua3 rfl rfl Ext.refl (fun w' hD => ?ha3) ?na3
      case ha3 =>
        obtain ⟨d0, d1, d2, d3⟩ := FX.out w' hD.1
        go_simp; rfl
      simp only [Act.put, List.setIfInBounds_toArray, List.set_cons_succ, List.set_cons_zero, Nat.reduceAdd]
      refine wpM_val ?ua4 rfl rfl Ext.refl (fun w' hD => ?ha4) ?na4
      case ha4 =>
        obtain ⟨d0, d1, d2, d3⟩ := FX.out w' hD.1
        go_simp; rfl
      simp only [Act.put, List.setIfInBounds_toArray, List.set_cons_succ, List.set_cons_zero, Nat.reduceAdd]
      refine wpM_op _ rfl rfl (opens_call ?fa5 ?ga5 (fun w' hD => ?ha5) (fun w' hD => ?ca5)) (fun v5 hv5 => ?na5)
      case ha5 => go_simp; constructor <;> rfl
      case ca5 =>
        refine (HCALL.out x w' (HMEMa.out x (mem_of_get hxk)) ((hx.trans (xo.trans hD.1)).kc)).mono ?_
        rintro e w2 ⟨rfl, hb⟩
        exact ⟨_, rfl, hb, rfl⟩
      obtain ⟨_, -, -, rfl⟩ := hv5
      simp only [Act.put, List.setIfInBounds_toArray, List.set_cons_succ, List.set_cons_zero, Nat.reduceAdd]
      refine wpM_nil ?_
      intro w9 hw9 hF9
      clear hF9 FX
      have x9 := xo.trans hw9
      have O9 := own_below O.out x9
      obtain ⟨t0, t1, t2⟩ := bcells_get _ k x HLK.out
      have d0 := (O9.cellAt (k * 3) (by omega)).trans t0
      have d1 := (O9.cellAt (k * 3 + 1) (by omega)).trans t1
      have d2 := (O9.cellAt (k * 3 + 2) (by omega)).trans t2
      have df := O9.frozenAt
      have df0 := df (k * 3)
      have df1 := df (k * 3 + 1)
      have df2 := df (k * 3 + 2)
      have hOS := own_set3 O9 HLK.out (f x)
      have HSET : Hid (((c.bs.take k).map f ++ c.bs.drop k).set k (f x) = (c.bs.take (k + 1)).map f ++ c.bs.drop (k + 1)) := set_map_drop f hxk
      have HOS := hid hOS
      have xw9 : Ext w w9 := hx.trans x9
      have hbs9 : BelS (fun i => i = g1) W3 w9 := hbs.trans (Ext.belS x9)
      have hgB : w.heap.size ≤ g1 := by have := (O9.lt g1 rfl).1; omega
      unfold Bd.val
      clear t0 t1 t2 df hOS O9 O hbs hx hxk hw9 xo x9
      try simp only [List.drop_succ_cons, List.drop_zero]
      go_wp2
      have hfin := HOS.out.1
      rw [HSET.out] at hfin
      have HF := hid hfin
      have hb10 := hbs9.trans HOS.out.2
      have xw10 : Ext w (((w9.setCell ⟨g1, k * 3, none⟩ (.int .i64 (f x).f)).setCell ⟨g1, k * 3 + 1, none⟩ (.int .i64 (f x).t)).setCell ⟨g1, k * 3 + 2, none⟩ (.int .i64 (f x).m)) := ((xw9.setCell hgB _).setCell hgB _).setCell hgB _
      clear hfin HOS HSET HLK d0 d1 d2 df0 df1 df2 hbs9 xw9
      go_wp2
      go_roundw
      case rel => exact ⟨k + 1, by go_num, by omega, HF, xw10, hb10⟩
      case measure => simp [intOf]; omega
    · have hlt' : ¬ (k : Int) < (c.bs.length : Int) := by omega
      have hbs1 := O.out
      rw [List.take_of_length_le (by omega), List.drop_eq_nil_of_le (by omega), List.append_nil] at hbs1
      have O1 := hid hbs1
      have gu := hbs.heap GU.out (by show ¬ Bu = g1; omega)
      have pB := block_cell (i := 3) gu
      simp only [List.getElem?_toArray, List.getElem?_cons_zero, List.getElem?_cons_succ] at pB
      have GU := hid gu
      have G0 := hid (hbs.heap G0.out (by show ¬ w.heap.size = g1; have := HB1.out; omega))
      have hne12 : g1 ≠ g2 := HNE12.out
      have O2 := hid (hbs.own O2.out (fun i e h => by have h2 : g2 = i := Option.some.inj e; have h3 : i = g1 := h; omega))
      have HCO := hid (HCO.out.belS hbs (fun g hg e => by have h1 := (List.nodup_cons.1 HND.out).1; have h2 : g = g1 := e; rw [h2] at hg; exact h1 hg))
      have xw := hx
      clear hbs1 hbs O hx gu
      obtain ⟨wo, rfl⟩ : ∃ wo : World, wo = wr := ⟨_, rfl⟩
      go_wp2
      go_loopw [32] (fun i wr => ∃ (k : Nat) (gd gr : List Nat) (xd xr : List Value), i = .int .i64 (k : Int) ∧ k ≤ c.cl.length ∧ Hid (gs = gd ++ gr ∧ xs = xd ++ xr ∧ xd.length = k * 2) ∧ Hid (ClO wr B gd xd ((c.cl.take k).map (mapCl f))) ∧ Hid (ClO wr B gr xr (c.cl.drop k)) ∧
          Hid (wr.ownsRow B 37 2 (.slice (some ⟨g2, 0, none⟩) c.cl.length m2) c.cl.length xs) ∧ Hid (wr.ownsRow B 35 3 (.slice (some ⟨g1, 0, none⟩) c.bs.length m1) c.bs.length (bcells (c.bs.map f))) ∧ Ext w wr ∧ BelS (fun i => i ∈ gs) wo wr) (fun i _ => c.cl.length - (intOf i).toNat)
      case atStart => exact ⟨0, [], gs, [], xs, rfl, Nat.zero_le _, ⟨rfl, rfl, rfl⟩, trivial, HCO, O2, O1, xw, BelS.refl _ _⟩
      case round =>
        obtain ⟨k, gd, gr, xd, xr, rfl, hk, HEQ, HCD, HCR, O2, O1, hxk, hbk⟩ := hrel
        by_cases hltk : k < c.cl.length
        · have hltk' : (k : Int) < (c.cl.length : Int) := by omega
          obtain ⟨y, hyk⟩ := get_of_lt c.cl k hltk
          have hdk : c.cl.drop k = y :: c.cl.drop (k + 1) := by rw [List.drop_eq_getElem_cons hltk, (List.getElem?_eq_some_iff.1 hyk).2]
          have htk : (c.cl.take (k + 1)).map (mapCl f) = (c.cl.take k).map (mapCl f) ++ [mapCl f y] := by rw [List.take_succ_eq_append_getElem hltk, (List.getElem?_eq_some_iff.1 hyk).2]; simp
          have hcr := HCR.out
          rw [hdk] at hcr
          obtain ⟨g, gr', q, ys, rfl, rfl, oy, hcr'⟩ := hcr.drop1
          have hmemy := mem_of_get hyk
          have HMEMb : Hid (∀ x ∈ y.bs, S x) := fun x hx => HSC.out x (all_mem.2 (.inr ⟨y, hmemy, hx⟩))
          have hl3 := HL3.out y hmemy
          have HTK := hid htk
          obtain ⟨eg1, ex1, elen⟩ := HEQ.out
          have c0 := O2.out.cellAt (k * 2) (by omega)
          have c1 := O2.out.cellAt (k * 2 + 1) (by omega)
          rw [ex1, List.getElem?_append_right (by omega), elen, show k * 2 - k * 2 = 0 by omega] at c0
          rw [ex1, List.getElem?_append_right (by omega), elen, show k * 2 + 1 - k * 2 = 1 by omega] at c1
          simp only [List.getElem?_cons_zero, List.getElem?_cons_succ] at c0 c1
          have hgin : g ∈ gs := by rw [eg1]; simp
          have hgbb := hgsb.out g hgin
          have hnd := HND.out
          have hg1g : g1 ≠ g := fun e => (List.nodup_cons.1 hnd).1 (e ▸ hgin)
          have hnd2 := (List.nodup_cons.1 hnd).2
          rw [eg1, List.nodup_append] at hnd2
          have HGD : Hid (∀ i ∈ gd, i ≠ g) := fun i hi e => hnd2.2.2 i hi g (by simp) e
          have HGR : Hid (∀ i ∈ gr', i ≠ g) := fun i hi e => by
            have := (List.nodup_cons.1 hnd2.2.1).1
            rw [e] at hi; exact this hi
          have HCR' := hid hcr'
          have OY := hid oy
          clear hdk htk hcr hyk eg1 ex1 hnd hnd2 HCR hcr' oy
          go_wp2
          have xo := Ext.alloc (Ext.refl wr) (.cells #[.int .i64 y.w, .slice (some ⟨g, 0, none⟩) y.bs.length q] 37)
          have GX := hid (heap_alloc_new wr (.cells #[.int .i64 y.w, .slice (some ⟨g, 0, none⟩) y.bs.length q] 37))
          generalize hWi : wr.alloc (.cells #[.int .i64 y.w, .slice (some ⟨g, 0, none⟩) y.bs.length q] 37) = Wi at xo GX ⊢
          clear hWi
          obtain ⟨Bx, hBx⟩ : ∃ Bx, wr.heap.size = Bx := ⟨_, rfl⟩
          have HBx := hid hBx
          rw [hBx] at GX
          have hgx : g < Bx := by have := (OY.out.lt g rfl).2; omega
          rw [hBx]
          clear hBx c0 c1
          have xb : Ext w Wi := hxk.trans xo
          have OYi := hid (own_below OY.out xo)
          obtain ⟨wp, rfl⟩ : ∃ wp : World, wp = wr := ⟨_, rfl⟩
          go_loopw [39] (fun i wr => ∃ j : Nat, i = .int .i64 (j : Int) ∧ j ≤ y.bs.length ∧ Hid (wr.ownsRow B 35 3 (.slice (some ⟨g, 0, none⟩) y.bs.length q) y.bs.length (bcells ((y.bs.take j).map f ++ y.bs.drop j))) ∧ Ext w wr ∧ BelS (fun i => i = g) Wi wr) (fun i _ => y.bs.length - (intOf i).toNat)
          case atStart => exact ⟨0, rfl, Nat.zero_le _, by unfold Hid; simpa using OYi.out, xb, BelS.refl _ _⟩
          case round =>
            obtain ⟨j, rfl, hj, O, hx, hbs⟩ := hrel
            by_cases hlt : j < y.bs.length
            · have hlt' : (j : Int) < (y.bs.length : Int) := by omega
              obtain ⟨x, hxk⟩ := get_of_lt y.bs j hlt
              have hLk : ((y.bs.take j).map f ++ y.bs.drop j)[j]? = some x := by
                rw [List.getElem?_append_right (by simp; omega)]; simp [Nat.min_eq_left hj, hxk]
              obtain ⟨e0, e1, e2⟩ := bcells_get _ j x hLk
              have hlen3 : j * 3 + 2 < y.bs.length * 3 := by omega
              have c0 := (O.out.cellAt (j * 3) (by omega)).trans e0
              have c1 := (O.out.cellAt (j * 3 + 1) (by omega)).trans e1
              have c2 := (O.out.cellAt (j * 3 + 2) (by omega)).trans e2
              have HLK := hid hLk
              have pB := block_cell (i := 1) (hbs.heap GX.out (by show ¬ Bx = g; omega))
              simp only [List.getElem?_toArray, List.getElem?_cons_zero, List.getElem?_cons_succ] at pB
              clear e0 e1 e2 hLk
              go_wp2
              have xo := Ext.alloc (Ext.refl wr) (.cells #[.int .i64 x.f, .int .i64 x.t, .int .i64 x.m] 35)
              have n0 : (wr.alloc (.cells #[.int .i64 x.f, .int .i64 x.t, .int .i64 x.m] 35)).cell? ⟨wr.heap.size, 0, none⟩ = some (.int .i64 x.f) := by simp [go_sem]
              have n1 : (wr.alloc (.cells #[.int .i64 x.f, .int .i64 x.t, .int .i64 x.m] 35)).cell? ⟨wr.heap.size, 1, none⟩ = some (.int .i64 x.t) := by simp [go_sem]
              have n2 : (wr.alloc (.cells #[.int .i64 x.f, .int .i64 x.t, .int .i64 x.m] 35)).cell? ⟨wr.heap.size, 2, none⟩ = some (.int .i64 x.m) := by simp [go_sem]
              generalize hWo : wr.alloc (.cells #[.int .i64 x.f, .int .i64 x.t, .int .i64 x.m] 35) = Wo at xo n0 n1 n2 ⊢
              clear hWo c0 c1 c2
              have FX0 : ∀ w', Ext Wo w' → w'.cell? ⟨Bx, 1, none⟩ = some (.slice (some ⟨g, 0, none⟩) y.bs.length q) ∧ w'.cell? ⟨wr.heap.size, 0, none⟩ = some (.int .i64 x.f) ∧ w'.cell? ⟨wr.heap.size, 1, none⟩ = some (.int .i64 x.t) ∧ w'.cell? ⟨wr.heap.size, 2, none⟩ = some (.int .i64 x.m) :=
                fun w' h => ⟨h.cell (xo.cell pB), h.cell n0, h.cell n1, h.cell n2⟩
              have FX := hid FX0
              clear FX0 pB n0 n1 n2
              refine wp_region_opens_tail Ext (fun w' => Ext Wo w') (fun | 5 => some (fun v _ => v = (f x).val) | _ => none) 6 (by kernel_rfl) (by kernel_rfl) (ext_upx Wo) ?hTb (Ext.drew (Ext.refl _)) ?_
              case hTb =>
                intro i R hR
                match i, hR with
                | 5, hR => cases hR; exact fun _ _ _ h _ => h
              refine wpM_val ?ub0 rfl rfl Ext.refl (fun w' hD => ?hb0) ?nb0
              case hb0 =>
                obtain ⟨d0, d1, d2, d3⟩ := FX.out w' hD.1
                go_simp; rfl
              simp only [Act.put, List.setIfInBounds_toArray, List.set_cons_succ, List.set_cons_zero, Nat.reduceAdd]
              refine wpM_val ?ub1 rfl rfl Ext.refl (fun w' hD => ?hb1) ?nb1
              case hb1 =>
                obtain ⟨d0, d1, d2, d3⟩ := FX.out w' hD.1
                go_simp; rfl
              simp only [Act.put, List.setIfInBounds_toArray, List.set_cons_succ, List.set_cons_zero, Nat.reduceAdd]
              refine wpM_val ?ub2 rfl rfl Ext.refl (fun w' hD => ?hb2) ?nb2
              case hb2 =>
                obtain ⟨d0, d1, d2, d3⟩ := FX.out w' hD.1
                go_simp; rfl
              simp only [Act.put, List.setIfInBounds_toArray, List.set_cons_succ, List.set_cons_zero, Nat.reduceAdd]
              refine wpM_val ?ub3 rfl rfl Ext.refl (fun w' hD => ?hb3) ?nb3
              case hb3 =>
                obtain ⟨d0, d1, d2, d3⟩ := FX.out w' hD.1
                go_simp; rfl
              simp only [Act.put, List.setIfInBounds_toArray, List.set_cons_succ, List.set_cons_zero, Nat.reduceAdd]
              refine wpM_val ?ub4 rfl rfl Ext.refl (fun w' hD => ?hb4) ?nb4
              case hb4 =>
                obtain ⟨d0, d1, d2, d3⟩ := FX.out w' hD.1
                go_simp; rfl
              simp only [Act.put, List.setIfInBounds_toArray, List.set_cons_succ, List.set_cons_zero, Nat.reduceAdd]
              refine wpM_op _ rfl rfl (opens_call ?fb5 ?gb5 (fun w' hD => ?hb5) (fun w' hD => ?cb5)) (fun v5 hv5 => ?nb5)
              case hb5 => go_simp; constructor <;> rfl
              case cb5 =>
                refine (HCALL.out x w' (HMEMb.out x (mem_of_get hxk)) ((hx.trans (xo.trans hD.1)).kc)).mono ?_
                rintro e w2 ⟨rfl, hb⟩
                exact ⟨_, rfl, hb, rfl⟩
              obtain ⟨_, -, -, rfl⟩ := hv5
              simp only [Act.put, List.setIfInBounds_toArray, List.set_cons_succ, List.set_cons_zero, Nat.reduceAdd]
              refine wpM_nil ?_
              intro w9 hw9 hF9
              clear hF9 FX
              have x9 := xo.trans hw9
              have O9 := own_below O.out x9
              obtain ⟨t0, t1, t2⟩ := bcells_get _ j x HLK.out
              have d0 := (O9.cellAt (j * 3) (by omega)).trans t0
              have d1 := (O9.cellAt (j * 3 + 1) (by omega)).trans t1
              have d2 := (O9.cellAt (j * 3 + 2) (by omega)).trans t2
              have df := O9.frozenAt
              have df0 := df (j * 3)
              have df1 := df (j * 3 + 1)
              have df2 := df (j * 3 + 2)
              have hOS := own_set3 O9 HLK.out (f x)
              have HSET : Hid (((y.bs.take j).map f ++ y.bs.drop j).set j (f x) = (y.bs.take (j + 1)).map f ++ y.bs.drop (j + 1)) := set_map_drop f hxk
              have HOS := hid hOS
              have xw9 : Ext w w9 := hx.trans x9
              have hbs9 : BelS (fun i => i = g) Wi w9 := hbs.trans (Ext.belS x9)
              have hgB : w.heap.size ≤ g := by have := (O9.lt g rfl).1; omega
              unfold Bd.val
              clear t0 t1 t2 df hOS O9 O hbs hx hxk hw9 xo x9
              try simp only [List.drop_succ_cons, List.drop_zero]
              go_wp2
              have hfin := HOS.out.1
              rw [HSET.out] at hfin
              have HF := hid hfin
              have hb10 := hbs9.trans HOS.out.2
              have xw10 : Ext w (((w9.setCell ⟨g, j * 3, none⟩ (.int .i64 (f x).f)).setCell ⟨g, j * 3 + 1, none⟩ (.int .i64 (f x).t)).setCell ⟨g, j * 3 + 2, none⟩ (.int .i64 (f x).m)) := ((xw9.setCell hgB _).setCell hgB _).setCell hgB _
              clear hfin HOS HSET HLK d0 d1 d2 df0 df1 df2 hbs9 xw9
              go_wp2
              go_roundw
              case rel => exact ⟨j + 1, by go_num, by omega, HF, xw10, hb10⟩
              case measure => simp [intOf]; omega
            · have hlt' : ¬ (j : Int) < (y.bs.length : Int) := by omega
              have hyo := O.out
              rw [List.take_of_length_le (by omega), List.drop_eq_nil_of_le (by omega), List.append_nil] at hyo
              have hly : (mapCl f y).bs.length = y.bs.length := by simp [mapCl]
              have N2 := hid (hbs.own (own_below O2.out xo) (fun i e h => by have h2 : g2 = i := Option.some.inj e; have h3 : i = g := h; exact ty_ne (own_ty (own_below OY.out xo)) (own_ty (own_below O2.out xo)) (by decide) (h3.symm.trans h2.symm)))
              have N1 := hid (hbs.own (own_below O1.out xo) (fun i e h => by have h2 : g1 = i := Option.some.inj e; have h3 : i = g := h; exact hg1g (h2.trans h3)))
              have NCD : Hid (ClO wr B (gd ++ [g]) (xd ++ [.int .i64 y.w, .slice (some ⟨g, 0, none⟩) y.bs.length q]) ((c.cl.take (k + 1)).map (mapCl f))) := by
                unfold Hid
                rw [HTK.out]
                refine ClO.app (gs' := [g]) (m := [mapCl f y]) ((HCD.out.ext xo).belS hbs (fun i hi e => HGD.out i hi e)) ⟨rfl, ⟨q, by rw [hly], ?_⟩, trivial⟩
                rw [hly]
                exact hyo
              have NCR := hid ((HCR'.out.ext xo).belS hbs (fun i hi e => HGR.out i hi e))
              have NEQ : Hid (gs = (gd ++ [g]) ++ gr' ∧ xs = (xd ++ [.int .i64 y.w, .slice (some ⟨g, 0, none⟩) y.bs.length q]) ++ ys ∧ (xd ++ [Value.int .i64 y.w, Value.slice (some ⟨g, 0, none⟩) y.bs.length q]).length = (k + 1) * 2) := by
                obtain ⟨e1, e2, e3⟩ := HEQ.out
                exact ⟨by rw [e1]; simp, by rw [e2]; simp, by simp [e3]; omega⟩
              have nbk : BelS (fun i => i ∈ gs) wo wr := hbk.trans ((Ext.belS xo).trans (hbs.mono fun i _ e => by have h2 : i = g := e; rw [h2]; exact hgin))
              clear hyo hbs O hbk HCD HCR' HEQ HTK O1 O2 xo OYi OY xb hxk hly
              go_wp2
              go_roundw
              case rel => exact ⟨k + 1, gd ++ [g], gr', xd ++ [.int .i64 y.w, .slice (some ⟨g, 0, none⟩) y.bs.length q], ys, by go_num, by omega, NEQ, NCD, NCR, N2, N1, hx, nbk⟩
              case measure => simp [intOf]; omega
        · have hltk' : ¬ (k : Int) < (c.cl.length : Int) := by omega
          have hcr := HCR.out
          rw [List.drop_eq_nil_of_le (by omega)] at hcr
          obtain ⟨hgr, hxr⟩ := hcr.nil_
          have hcd := HCD.out
          rw [List.take_of_length_le (by omega)] at hcd
          obtain ⟨eg1, ex1, elen⟩ := HEQ.out
          rw [hxr, List.append_nil] at ex1
          rw [← ex1] at hcd
          have gu := hbk.heap GU.out (fun e => by have := hgsb.out Bu e; omega)
          have g0 := hbk.heap G0.out (fun e => by have := hgsb.out _ e; omega)
          have p0 := block_cell (i := 0) gu
          have p1 := block_cell (i := 1) gu
          have p2 := block_cell (i := 2) gu
          have p3 := block_cell (i := 3) gu
          have r0 := block_cell (i := 0) g0
          have r1 := block_cell (i := 1) g0
          have r2 := block_cell (i := 2) g0
          have r3 := block_cell (i := 3) g0
          have rf := fun i => block_free (i := i) g0
          simp only [List.getElem?_toArray, List.getElem?_cons_zero, List.getElem?_cons_succ] at p0 p1 p2 p3 r0 r1 r2 r3
          have HCDF := hid hcd
          have hne : ¬ Bu = w.heap.size := by have := HB1.out; omega
          have hne2 : ¬ w.heap.size = Bu := fun e => hne e.symm
          have hg1w : w.heap.size < g1 := by have := hg1.1; omega
          have hg2w : w.heap.size < g2 := by have := hg2.1; omega
          clear hcr hcd eg1 ex1 elen hgr hxr HCR HCD HEQ gu g0
          go_wp2
          have xg : BelS (fun i => i = w.heap.size) wr ((((wr.setCell ⟨w.heap.size, 0, none⟩ (.int .i64 c.ev)).setCell ⟨w.heap.size, 1, none⟩ (.slice (some ⟨g1, 0, none⟩) c.bs.length m1)).setCell ⟨w.heap.size, 2, none⟩ (.int .i64 c.wi)).setCell ⟨w.heap.size, 3, none⟩ (.slice (some ⟨g2, 0, none⟩) c.cl.length m2)) :=
            ((((BelS.refl _ wr).setCell (S := fun i => i = w.heap.size) ⟨w.heap.size, 0, none⟩ _ rfl).setCell ⟨w.heap.size, 1, none⟩ _ rfl).setCell ⟨w.heap.size, 2, none⟩ _ rfl).setCell ⟨w.heap.size, 3, none⟩ _ rfl
          have xf : Ext w ((((wr.setCell ⟨w.heap.size, 0, none⟩ (.int .i64 c.ev)).setCell ⟨w.heap.size, 1, none⟩ (.slice (some ⟨g1, 0, none⟩) c.bs.length m1)).setCell ⟨w.heap.size, 2, none⟩ (.int .i64 c.wi)).setCell ⟨w.heap.size, 3, none⟩ (.slice (some ⟨g2, 0, none⟩) c.cl.length m2)) :=
            (((hxk.setCell (Nat.le_refl _) _).setCell (Nat.le_refl _) _).setCell (Nat.le_refl _) _).setCell (Nat.le_refl _) _
          have hv : (Value.agg #[.int .i64 c.ev, .slice (some ⟨g1, 0, none⟩) c.bs.length m1, .int .i64 c.wi, .slice (some ⟨g2, 0, none⟩) c.cl.length m2]) = .agg #[.int .i64 (c.map f).ev, .slice (some ⟨g1, 0, none⟩) (c.map f).bs.length m1, .int .i64 (c.map f).wi, .slice (some ⟨g2, 0, none⟩) (c.map f).cl.length m2] := by simp [Cs.map]
          have f1 := xg.own O1.out (fun i e h => by have h2 : g1 = i := Option.some.inj e; have h3 : i = w.heap.size := h; omega)
          have f2 := xg.own O2.out (fun i e h => by have h2 : g2 = i := Option.some.inj e; have h3 : i = w.heap.size := h; omega)
          have f3 := HCDF.out.belS xg (fun i hi e => by have h3 : i = w.heap.size := e; have := (HCDF.out.lt i hi).1; omega)
          refine bodyPost_ret (v := .agg #[.int .i64 c.ev, .slice (some ⟨g1, 0, none⟩) c.bs.length m1, .int .i64 c.wi, .slice (some ⟨g2, 0, none⟩) c.cl.length m2]) ?res rfl
            ⟨_, rfl, ⟨_, m1, _, m2, hv, Rd.of_own f1, xs, Rd.of_own f2, f3.toC⟩, xf⟩
          case res => simp [results, Try.results16, go_sem, r0, r1, r2, r3]
end Go.Proofs.Ytgnjhaomlbkgcaa
