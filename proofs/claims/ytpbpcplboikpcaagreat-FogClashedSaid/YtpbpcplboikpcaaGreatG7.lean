/- The walk of the reference's Laid. Printed by my gen_flaid.py. The walks of the reference's Hears and Places. Printed by my gen_fref5.py. The walk of Own. Printed by my gen_fown.py. The walk of theirs. Printed by my gen_ftheirs.py. -/
import Derived.Test.YtpbpcplboikpcaaGreatFRef2
import Derived.Test.YtpbpcplboikpcaaGreatG6
import Derived.Test.YtpbpcplboikpcaaGreatG4
import Derived.Laws.ResultCell
import Derived.Test.YtpbpcplboikpcaaGreatG5
import Derived.OwnWalk
import Derived.Deep.DeepCutAuto
import Derived.Deep.CutBlock
namespace Go.Proofs.YtpbpcplboikpcaaGreat
open Go Go.RowKit Go.Shelf
set_option linter.unusedVariables false
set_option linter.unusedSimpArgs false

theorem elem_ints : ElemOK Tryz.prog 35 42 1 24 := by
  refine ⟨Tryz.underlying35, ?_, by decide, by decide⟩
  have h : ((Tryz.prog.info? 42).bind fun i => i.zero.map fun z => (i.size, i.bytes, z.cells.size)) = some (1, 24, 1) := by kernel_rfl
  cases hi : Tryz.prog.info? 42 with
  | none => rw [hi] at h; cases h
  | some i =>
    rw [hi] at h
    cases hz : i.zero with
    | none => simp [hz] at h
    | some z => simp [hz] at h; exact ⟨i, z, rfl, hz, h.1, h.2.1, h.2.2⟩
theorem blk_free {w : World} {B i : Nat} {cs : Array Value} {T : TypeId} (h : w.heap[B]? = some (.cells cs T (0, 0))) : w.frozen? ⟨B, i, none⟩ = false := by simp [World.frozen?, h]
theorem blk_set {w : World} {D i : Nat} {cs : Array Value} {T : TypeId} (h : w.heap[D]? = some (.cells cs T (0, 0))) (v : Value) : (w.setCell ⟨D, i, none⟩ v).heap[D]? = some (.cells (cs.setIfInBounds i v) T (0, 0)) := by
  simp [World.setCell, Array.getElem?_modify, h]
theorem own_blk {w : World} {base e size n g : Nat} {v : Value} {xs : List Value} (h : w.ownsRow base e size v n xs) (hg : v.ownBlock = some g) : ∃ cur, w.heap[g]? = some (.cells cur e (0, 0)) := by
  rcases h.2 with ⟨rfl, _⟩ | ⟨g2, cap, cur, rfl, _, h2, _⟩
  · cases hg
  · cases hg; exact ⟨cur, h2⟩
/-- Rows of numbers, each of the call's own. -/
structure OwnRows (w : World) (B : Nat) (xs : List Value) (ls : List (List Int)) : Prop where
  len : xs.length = ls.length
  row : ∀ (i : Nat) (l : List Int), ls[i]? = some l → ∃ A k, xs[i]? = some (.slice A l.length k) ∧ w.ownsRow B 3 1 (.slice A l.length k) l.length (l.map (.int .i64))
theorem OwnRows.ext {w w' : World} {B : Nat} {xs : List Value} {ls : List (List Int)} (h : OwnRows w B xs ls) (hx : Ext w w') : OwnRows w' B xs ls :=
  ⟨h.len, fun i l hi => by obtain ⟨A, k, e, ho⟩ := h.row i l hi; exact ⟨A, k, e, own_below ho hx⟩⟩
theorem OwnRows.keep {S : Nat → Prop} {w w' : World} {B : Nat} {xs : List Value} {ls : List (List Int)} (h : OwnRows w B xs ls) (hb : BelS S w w') (hS : ∀ g, S g → ∃ cs T, w.heap[g]? = some (.cells cs T (0, 0)) ∧ T ≠ 3) : OwnRows w' B xs ls :=
  ⟨h.len, fun i l hi => by
    obtain ⟨A, k, e, ho⟩ := h.row i l hi
    exact ⟨A, k, e, hb.own ho (fun g hg hs => by obtain ⟨cs, T, hh, hne⟩ := hS g hs; exact own_ne ho hh hne hg)⟩⟩
theorem OwnRows.nil (w : World) (B : Nat) : OwnRows w B [] [] := ⟨rfl, fun i l h => by simp at h⟩
theorem OwnRows.snoc {w : World} {B : Nat} {xs : List Value} {ls : List (List Int)} (h : OwnRows w B xs ls) {l : List Int} {A : Option Addr} {k : Nat} (ho : w.ownsRow B 3 1 (.slice A l.length k) l.length (l.map (.int .i64))) : OwnRows w B (xs ++ [.slice A l.length k]) (ls ++ [l]) := by
  refine ⟨by simp [h.len], fun i m hi => ?_⟩
  by_cases hlt : i < ls.length
  · rw [List.getElem?_append_left hlt] at hi
    rw [List.getElem?_append_left (by rw [h.len]; exact hlt)]
    exact h.row i m hi
  · rw [List.getElem?_append_right (by omega)] at hi
    have hi0 : i - ls.length = 0 := by
      rcases Nat.eq_zero_or_pos (i - ls.length) with e | e
      · exact e
      · rw [List.getElem?_eq_none (by simp; omega)] at hi; cases hi
    rw [hi0] at hi
    cases hi
    rw [List.getElem?_append_right (by rw [h.len]; omega), h.len, hi0]
    exact ⟨A, k, rfl, ho⟩
theorem OwnRows.ints {w : World} {B B' n k : Nat} {A : Option Addr} {xs : List Value} {ls : List (List Int)} (h : OwnRows w B xs ls) (hr : w.ownsRow B' 42 1 (.slice A n k) n xs) : IntRows w A ls :=
  ⟨xs, Rd.of_own hr, h.len, fun i l hi => by
    obtain ⟨A', k', e, ho⟩ := h.row i l hi
    exact ⟨A', k', e, Rd.of_own ho, own_cap ho⟩⟩
def distRow (f : Fg) (a : Nat) : List Int := (List.range f.pl.toNat).map (farR f a)
def rowV (f : Fg) (a b : Nat) : List Value := ((List.range b).map (farR f a)).map (.int .i64)
def distL (f : Fg) : List (List Int) := (List.range f.pl.toNat).map (distRow f)
/-- Rows of distances that are the call's own. -/
def DistR (w : World) (A : Option Addr) (k : Nat) (d : List (List Int)) : Prop := ∃ B xs, w.ownsRow B 42 1 (.slice A d.length k) d.length xs ∧ OwnRows w B xs d
theorem DistR.ints {w : World} {A : Option Addr} {k : Nat} {d : List (List Int)} (h : DistR w A k d) : IntRows w A d := by
  obtain ⟨B, xs, h1, h2⟩ := h
  exact h2.ints h1
theorem DistR.nil (w : World) : DistR w none 0 [] := ⟨0, [], own_nil _ _ _ _, OwnRows.nil _ _⟩
theorem DistR.ext {w w' : World} {A : Option Addr} {k : Nat} {d : List (List Int)} (h : DistR w A k d) (hx : Ext w w') : DistR w' A k d := by
  obtain ⟨B, xs, h1, h2⟩ := h
  exact ⟨B, xs, own_below h1 hx, h2.ext hx⟩
theorem DistR.keep {S : Nat → Prop} {w w' : World} {A : Option Addr} {k : Nat} {d : List (List Int)} (h : DistR w A k d) (hb : BelS S w w') (hS : ∀ g, S g → ∃ cs T, w.heap[g]? = some (.cells cs T (0, 0)) ∧ T ≠ 3 ∧ T ≠ 42) : DistR w' A k d := by
  obtain ⟨B, xs, h1, h2⟩ := h
  exact ⟨B, xs, hb.own h1 (fun g hg hs => by obtain ⟨cs, T, hh, _, hne⟩ := hS g hs; exact own_ne h1 hh hne hg), h2.keep hb (fun g hg => by obtain ⟨cs, T, hh, hne, _⟩ := hS g hg; exact ⟨cs, T, hh, hne⟩)⟩
def LaidPost (w : World) (s : Ads) (f : Fg) (A4 : Option Addr) (c4 : Nat) (d : List (List Int)) (e : Ending) (w' : World) : Prop :=
  ∃ A k L, e = .returned (rval s f (.slice A L.length k)) ∧ Ext w w' ∧ ((checkF f ≠ 0 ∧ L = d ∧ A = A4 ∧ k = c4) ∨ (checkF f = 0 ∧ L = distL f ∧ DistR w' A k L))

set_option maxRecDepth 100000 in
set_option maxHeartbeats 1000000 in
theorem reflaid_any (s : Ads) (A4 : Option Addr) (c4 : Nat) (f : Fg) (d : List (List Int)) (w : World) (hr : FRows w s f) (hd : IntRows w A4 d) (hs : f.sized) :
    Calls Tryz.prog 85 #[rval s f (.slice A4 d.length c4)] w (LaidPost w s f A4 c4 d) := by
  have HS := hid hs
  obtain ⟨W0, hW0⟩ : ∃ W0, (w.alloc (.cells #[.int .i64 f.pl, .int .i64 f.mi, .slice s.a1 f.tr.length s.c1, .slice s.a2 f.bl.length s.c2, .slice s.a3 f.ct.length s.c3, .slice A4 d.length c4] 37)).alloc (.cells #[.int .i64 0, .int .i64 0, .slice none 0 0, .slice none 0 0, .slice none 0 0, .slice none 0 0] 37) = W0 := ⟨_, rfl⟩
  have hx0 : Ext w W0 := by rw [← hW0]; exact (Ext.alloc (Ext.refl w) _).alloc _
  have sz0 : W0.heap.size = w.heap.size + 2 := by rw [← hW0]; simp
  have G1 : Hid (W0.heap[w.heap.size]? = some (.cells #[.int .i64 f.pl, .int .i64 f.mi, .slice s.a1 f.tr.length s.c1, .slice s.a2 f.bl.length s.c2, .slice s.a3 f.ct.length s.c3, .slice A4 d.length c4] 37 (0, 0))) := by
    unfold Hid; rw [← hW0]
    exact (Below.block (Ext.alloc (Ext.refl _) _) _ (by simp)).trans (heap_alloc_new w _)
  have G2 : Hid (W0.heap[(w.heap.size + 1)]? = some (.cells #[.int .i64 0, .int .i64 0, .slice none 0 0, .slice none 0 0, .slice none 0 0, .slice none 0 0] 37 (0, 0))) := by
    unfold Hid; rw [← hW0]
    have := heap_alloc_new (w.alloc (.cells #[.int .i64 f.pl, .int .i64 f.mi, .slice s.a1 f.tr.length s.c1, .slice s.a2 f.bl.length s.c2, .slice s.a3 f.ct.length s.c3, .slice A4 d.length c4] 37)) (.cells #[.int .i64 0, .int .i64 0, .slice none 0 0, .slice none 0 0, .slice none 0 0, .slice none 0 0] 37)
    simpa using this
  unfold LaidPost
  show Calls _ _ #[rval s f (.slice A4 d.length c4)] _ _
  unfold rval
  have p0 := block_cell (i := 0) G1.out
  have p1 := block_cell (i := 1) G1.out
  have p2 := block_cell (i := 2) G1.out
  have p3 := block_cell (i := 3) G1.out
  have p4 := block_cell (i := 4) G1.out
  have p5 := block_cell (i := 5) G1.out
  simp only [List.getElem?_toArray, List.getElem?_cons_zero, List.getElem?_cons_succ] at p0 p1 p2 p3 p4 p5
  go_enter Tryz.func85, Tryz.ntmps85
  go_wp2_with fail
  try rw [hW0]
  clear hW0 p0 p1 p2 p3 p4 p5
  refine (refcheck_any (rval s f (.slice A4 d.length c4)) f d W0 ⟨s, A4, c4, rfl, hr.ext hx0, hd.ext hx0⟩ HS.out).mono ?_
  rintro e w1 ⟨rfl, hb⟩
  have G1 := hid ((Below.block hb _ (by rw [sz0]; omega)).trans G1.out)
  have G2 := hid ((Below.block hb _ (by rw [sz0]; omega)).trans G2.out)
  have hx1 := hx0.trans hb
  have sz1 : w.heap.size + 2 ≤ w1.heap.size := by have := hb.size; omega
  clear hb hx0 sz0
  obtain ⟨T, hT⟩ : ∃ T, checkF f = T := ⟨_, rfl⟩
  have HT := hid hT
  rw [hT]
  clear hT
  by_cases hT0 : T = 0
  case neg =>
    have hTb : (T != 0) = true := by simpa using hT0
    have p0 := block_cell (i := 0) G1.out
    have p1 := block_cell (i := 1) G1.out
    have p2 := block_cell (i := 2) G1.out
    have p3 := block_cell (i := 3) G1.out
    have p4 := block_cell (i := 4) G1.out
    have p5 := block_cell (i := 5) G1.out
    simp only [List.getElem?_toArray, List.getElem?_cons_zero, List.getElem?_cons_succ] at p0 p1 p2 p3 p4 p5
    have r0 := block_cell (i := 0) G2.out
    have r1 := block_cell (i := 1) G2.out
    have r2 := block_cell (i := 2) G2.out
    have r3 := block_cell (i := 3) G2.out
    have r4 := block_cell (i := 4) G2.out
    have r5 := block_cell (i := 5) G2.out
    simp only [List.getElem?_toArray, List.getElem?_cons_zero, List.getElem?_cons_succ] at r0 r1 r2 r3 r4 r5
    have rf := fun i => blk_free (i := i) G2.out
    go_wp2
    have xf : Ext w ((((((w1.setCell ⟨w.heap.size + 1, 0, none⟩ (.int .i64 f.pl)).setCell ⟨w.heap.size + 1, 1, none⟩ (.int .i64 f.mi)).setCell ⟨w.heap.size + 1, 2, none⟩ (.slice s.a1 f.tr.length s.c1)).setCell ⟨w.heap.size + 1, 3, none⟩ (.slice s.a2 f.bl.length s.c2)).setCell ⟨w.heap.size + 1, 4, none⟩ (.slice s.a3 f.ct.length s.c3)).setCell ⟨w.heap.size + 1, 5, none⟩ (.slice A4 d.length c4)) := ((((((hx1.setCell (by show w.heap.size ≤ w.heap.size + 1; omega) _).setCell (by show w.heap.size ≤ w.heap.size + 1; omega) _).setCell (by show w.heap.size ≤ w.heap.size + 1; omega) _).setCell (by show w.heap.size ≤ w.heap.size + 1; omega) _).setCell (by show w.heap.size ≤ w.heap.size + 1; omega) _).setCell (by show w.heap.size ≤ w.heap.size + 1; omega) _)
    have xg : BelS (fun i => i = w.heap.size + 1) w1 ((((((w1.setCell ⟨w.heap.size + 1, 0, none⟩ (.int .i64 f.pl)).setCell ⟨w.heap.size + 1, 1, none⟩ (.int .i64 f.mi)).setCell ⟨w.heap.size + 1, 2, none⟩ (.slice s.a1 f.tr.length s.c1)).setCell ⟨w.heap.size + 1, 3, none⟩ (.slice s.a2 f.bl.length s.c2)).setCell ⟨w.heap.size + 1, 4, none⟩ (.slice s.a3 f.ct.length s.c3)).setCell ⟨w.heap.size + 1, 5, none⟩ (.slice A4 d.length c4)) := (((((((BelS.refl _ w1).setCell (S := fun i => i = w.heap.size + 1) ⟨w.heap.size + 1, 0, none⟩ _ rfl).setCell (S := fun i => i = w.heap.size + 1) ⟨w.heap.size + 1, 1, none⟩ _ rfl).setCell (S := fun i => i = w.heap.size + 1) ⟨w.heap.size + 1, 2, none⟩ _ rfl).setCell (S := fun i => i = w.heap.size + 1) ⟨w.heap.size + 1, 3, none⟩ _ rfl).setCell (S := fun i => i = w.heap.size + 1) ⟨w.heap.size + 1, 4, none⟩ _ rfl).setCell (S := fun i => i = w.heap.size + 1) ⟨w.heap.size + 1, 5, none⟩ _ rfl)
    have hcf : checkF f ≠ 0 := by rw [HT.out]; exact hT0
    refine bodyPost_ret (v := .agg #[.int .i64 f.pl, .int .i64 f.mi, .slice s.a1 f.tr.length s.c1, .slice s.a2 f.bl.length s.c2, .slice s.a3 f.ct.length s.c3, .slice A4 d.length c4]) ?_ rfl ⟨A4, c4, d, rfl, xf, .inl ⟨hcf, rfl, rfl, rfl⟩⟩
    simp [results, Tryz.results85, go_sem, r0, r1, r2, r3, r4, r5]
  subst hT0
  have HOK : Hid (FogOK f) := checkF_ok HT.out
  obtain ⟨P, hP⟩ : ∃ P : Nat, f.pl = P := ⟨f.pl.toNat, by have := HOK.out.pl; omega⟩
  have hP8 : P ≤ 8 := by have := HOK.out.pl; omega
  have HP : Hid (f.pl.toNat = P) := by unfold Hid; omega
  have HPE := hid hP
  clear hP
  have HTK : Hid (∀ a, a < P → (distL f).take (a + 1) = (distL f).take a ++ [distRow f a]) := fun a ha => by
    have h : (distL f)[a]? = some (distRow f a) := by unfold distL; rw [HP.out]; simp [ha]
    rw [List.take_add_one, h]; rfl
  have HDL : Hid ((distL f).length = P) := by unfold Hid distL; rw [HP.out]; simp
  have hd0 : True := trivial
  have pc := block_cell (i := 5) G1.out
  have pf := blk_free (i := 5) G1.out
  simp only [List.getElem?_toArray, List.getElem?_cons_zero, List.getElem?_cons_succ] at pc
  go_wp2
  have G1n : Hid ((w1.setCell ⟨w.heap.size, 5, none⟩ (.slice none 0 0)).heap[w.heap.size]? = some (.cells #[.int .i64 f.pl, .int .i64 f.mi, .slice s.a1 f.tr.length s.c1, .slice s.a2 f.bl.length s.c2, .slice s.a3 f.ct.length s.c3, .slice none 0 0] 37 (0, 0))) := by
    have := blk_set G1.out (i := 5) (.slice none 0 0)
    unfold Hid; simpa using this
  have xs1 : BelS (fun k => k = w.heap.size) w1 (w1.setCell ⟨w.heap.size, 5, none⟩ (.slice none 0 0)) := (BelS.refl _ w1).setCell _ _ rfl
  have G2n := hid (xs1.heap G2.out (by omega))
  have hxn : Ext w (w1.setCell ⟨w.heap.size, 5, none⟩ (.slice none 0 0)) := hx1.setCell (Nat.le_refl _) _
  have szn : w.heap.size + 2 ≤ (w1.setCell ⟨w.heap.size, 5, none⟩ (.slice none 0 0)).heap.size := by simp; omega
  generalize hWn : w1.setCell ⟨w.heap.size, 5, none⟩ (.slice none 0 0) = Wn at G1n xs1 G2n hxn szn ⊢
  clear hWn xs1 pc pf G1 G2 hx1 sz1
  go_loopw [3] (fun i3 wr => ∃ (a : Nat) (D : Option Addr) (kd : Nat) (xs : List Value), a ≤ P ∧ i3 = .int .i64 (a : Int) ∧ Hid (wr.heap[w.heap.size]? = some (.cells #[.int .i64 f.pl, .int .i64 f.mi, .slice s.a1 f.tr.length s.c1, .slice s.a2 f.bl.length s.c2, .slice s.a3 f.ct.length s.c3, .slice D a kd] 37 (0, 0))) ∧ Hid (wr.heap[(w.heap.size + 1)]? = some (.cells #[.int .i64 0, .int .i64 0, .slice none 0 0, .slice none 0 0, .slice none 0 0, .slice none 0 0] 37 (0, 0))) ∧ Hid (wr.ownsRow (w.heap.size + 2) 42 1 (.slice D a kd) a xs) ∧ Hid (OwnRows wr (w.heap.size + 2) xs ((distL f).take a)) ∧ Ext w wr ∧ w.heap.size + 2 ≤ wr.heap.size) (fun i _ => P - (intOf i).toNat)
  case atStart => exact ⟨0, none, 0, [], Nat.zero_le _, rfl, G1n, G2n, own_nil _ _ _ _, OwnRows.nil _ _, hxn, szn⟩
  case round =>
    obtain ⟨a, D, kd, xs, ha, rfl, G1, G2, OD, OR, hx, hsz⟩ := hrel
    by_cases hlt : a < P
    · have hlt' : (a : Int) < f.pl := by have := HPE.out; omega
      obtain ⟨V, hV⟩ : ∃ V : World, V = wr := ⟨_, rfl⟩
      subst hV
      have p0 := block_cell (i := 0) G1.out
      have p1 := block_cell (i := 1) G1.out
      have p2 := block_cell (i := 2) G1.out
      have p3 := block_cell (i := 3) G1.out
      have p4 := block_cell (i := 4) G1.out
      have p5 := block_cell (i := 5) G1.out
      simp only [List.getElem?_toArray, List.getElem?_cons_zero, List.getElem?_cons_succ] at p0 p1 p2 p3 p4 p5
      go_wp2
      clear p0 p1 p2 p3 p4 p5
      go_loopw [5, 4] (fun i5 i4 wr => ∃ (b : Nat) (A : Option Addr) (k : Nat), b ≤ P ∧ i5 = .int .i64 (b : Int) ∧ i4 = .slice A b k ∧ Hid (wr.ownsRow V.heap.size 3 1 (.slice A b k) b (rowV f a b)) ∧ Ext V wr) (fun i _ _ => P - (intOf i).toNat)
      case atStart => exact ⟨0, none, 0, Nat.zero_le _, rfl, rfl, own_nil _ _ _ _, Ext.refl _⟩
      case round =>
        obtain ⟨b, A, k, hb, rfl, rfl, OA, hxv⟩ := hrel
        have G1v := hid ((Below.block hxv _ (by omega)).trans G1.out)
        have p0 := block_cell (i := 0) G1v.out
        have p1 := block_cell (i := 1) G1v.out
        have p2 := block_cell (i := 2) G1v.out
        have p3 := block_cell (i := 3) G1v.out
        have p4 := block_cell (i := 4) G1v.out
        have p5 := block_cell (i := 5) G1v.out
        simp only [List.getElem?_toArray, List.getElem?_cons_zero, List.getElem?_cons_succ] at p0 p1 p2 p3 p4 p5
        by_cases hlb : b < P
        · have hlb' : (b : Int) < f.pl := by have := HPE.out; omega
          go_wp2_with fail
          clear p0 p1 p2 p3 p4 p5
          have HLN : Hid (((distL f).take a).length = a) := by unfold Hid; rw [List.length_take, HDL.out]; omega
          obtain ⟨dd, hdd⟩ : ∃ dd, (distL f).take a = dd := ⟨_, rfl⟩
          have HIR : Hid (IntRows wr D dd) := by rw [← hdd]; exact (OR.out.ints OD.out).ext hxv
          rw [hdd] at HLN
          clear hdd
          have HRG : Hid (RgR wr (.agg #[.int .i64 f.pl, .int .i64 f.mi, .slice s.a1 f.tr.length s.c1, .slice s.a2 f.bl.length s.c2, .slice s.a3 f.ct.length s.c3, .slice D a kd]) f dd) := ⟨s, D, kd, by unfold rval; rw [HLN.out], hr.ext (hx.trans hxv), HIR.out⟩
          refine (reffar_any (.agg #[.int .i64 f.pl, .int .i64 f.mi, .slice s.a1 f.tr.length s.c1, .slice s.a2 f.bl.length s.c2, .slice s.a3 f.ct.length s.c3, .slice D a kd]) f dd a b wr HRG.out HS.out HOK.out (by rw [HP.out]; exact hlt) (by rw [HP.out]; exact hlb)).mono ?_
          rintro e w2 ⟨rfl, hb2⟩
          obtain ⟨W5, hW5⟩ : ∃ W5, w2.alloc (.cells #[.int .i64 (farR f a b)] 3) = W5 := ⟨_, rfl⟩
          have hx5 : Ext w2 W5 := by rw [← hW5]; exact Ext.alloc (Ext.refl _) _
          have HRD : Hid (Rd W5 (some ⟨w2.heap.size, 0, none⟩) [.int .i64 (farR f a b)]) := .inr ⟨w2.heap.size, 0, rfl, fun j u hu => by
            match j, hu with
            | 0, hu => cases hu; rw [← hW5]; simp [go_sem]
            | j + 1, hu => simp at hu⟩
          have OW5 := hid (own_below OA.out (hb2.trans hx5))
          have hxw5 := hxv.trans (hb2.trans hx5)
          have hsz5 := hxw5.size
          have hnb : (b + 1) * 8 ≤ 140737488355328 := by omega
          have HXW := hid hxw5
          have HNX : Hid (rowV f a b ++ [.int .i64 (farR f a b)] = rowV f a (b + 1)) := by unfold Hid rowV; rw [List.range_succ]; simp
          clear hxw5 OA
          generalize hFR : farR f a b = FR at HRD HNX hW5 ⊢
          clear hFR
          go_wp2_with (at_builtin; (try rw [hW5]); refine wpList_append_rd2 _ rfl _ _ 42 rfl elem_int V.heap.size _ b (rowV f a b) rfl OW5.out (some ⟨w2.heap.size, 0, none⟩) 1 1 [.int .i64 FR] rfl rfl HRD.out (by intro u hu; simp at hu; subst hu; rfl) hnb hsz5 ?_)
          intro A6 k6 W6 own6 hbel6 hgr6 hloc6
          rw [HNX.out] at own6
          have hxw6 : Ext V W6 := Ext.grown HXW.out hgr6 (fun k e => (OW5.out.lt k e).1)
          have HO6 := hid own6
          clear own6 hloc6 hgr6 hbel6
          go_wp2
          go_roundw
          case rel => exact ⟨b + 1, A6, k6, by omega, by go_num, rfl, HO6, hxw6⟩
          case measure => simp [intOf]; omega
        · have hlb' : ¬ (b : Int) < f.pl := by have := HPE.out; omega
          have hbP : b = P := by omega
          subst hbP
          obtain ⟨U, hU⟩ : ∃ V : World, V = wr := ⟨_, rfl⟩
          subst hU
          obtain ⟨W5, hW5⟩ : ∃ W5, U.alloc (.cells #[.slice A b k] 42) = W5 := ⟨_, rfl⟩
          have hx5 : Ext U W5 := by rw [← hW5]; exact Ext.alloc (Ext.refl _) _
          have HRD : Hid (Rd W5 (some ⟨U.heap.size, 0, none⟩) [.slice A b k]) := .inr ⟨U.heap.size, 0, rfl, fun j u hu => by
            match j, hu with
            | 0, hu => cases hu; rw [← hW5]; simp [go_sem]
            | j + 1, hu => simp at hu⟩
          have OD5 := hid (own_below OD.out (hxv.trans hx5))
          have OR5 := hid (OR.out.ext (hxv.trans hx5))
          have OA5 := hid (own_base (base' := w.heap.size + 2) (own_below OA.out hx5) hsz)
          have G15 := hid ((Below.block (hxv.trans hx5) _ (by omega)).trans G1.out)
          have G25 := hid ((Below.block (hxv.trans hx5) _ (by omega)).trans G2.out)
          have hsz5 : w.heap.size + 2 ≤ W5.heap.size := by have := (hxv.trans hx5).size; omega
          have hxw5 := hid (hx.trans (hxv.trans hx5))
          have hnb : (a + 1) * 24 ≤ 140737488355328 := by omega
          have HROW : Hid ((distRow f a).length = b ∧ rowV f a b = (distRow f a).map (Value.int .i64)) := by unfold Hid distRow rowV; rw [HP.out]; simp
          clear OA OD OR G1 G2 G1v
          go_wp2_with (at_builtin; (try rw [hW5]); refine wpList_append_rd2 _ rfl _ _ 35 rfl elem_ints (w.heap.size + 2) _ a xs rfl OD5.out (some ⟨U.heap.size, 0, none⟩) 1 1 [.slice A b k] rfl rfl HRD.out (by intro u hu; simp at hu; subst hu; rfl) hnb hsz5 ?_)
          intro D6 k6 W6 own6 hbel6 hgr6 hloc6
          have hS6 : BelS (fun g => (Value.slice D a kd).ownBlock = some g) W5 W6 := (BelS.refl _ W5).grown hgr6 (fun g e => e)
          have hD6 : ∀ g, (Value.slice D a kd).ownBlock = some g → ∃ cs T, W5.heap[g]? = some (.cells cs T (0, 0)) ∧ T ≠ 3 := fun g hg => by
            obtain ⟨cur, hc⟩ := own_blk OD5.out hg
            exact ⟨cur, _, hc, by decide⟩
          have OR6 := hid (OR5.out.keep hS6 hD6)
          have OA6 := hid (hS6.own OA5.out (fun g hg hs => by obtain ⟨cs, T, hh, hne⟩ := hD6 g hs; exact own_ne OA5.out hh hne hg))
          have G16 := hid (hS6.heap G15.out (fun e => own_ne OD5.out G15.out (by decide) e))
          have G26 := hid (hS6.heap G25.out (fun e => own_ne OD5.out G25.out (by decide) e))
          have hxw6 : Ext w W6 := Ext.grown hxw5.out hgr6 (fun k e => by have := (OD5.out.lt k e).1; omega)
          have hsz6 : w.heap.size + 2 ≤ W6.heap.size := Nat.le_trans hsz5 hS6.size
          have OD6 := hid own6
          have hcr : (W6.cell? ⟨w.heap.size, 5, none⟩) = some (.slice D a kd) := by rw [block_cell G16.out]; rfl
          have hfr := blk_free (i := 5) G16.out
          clear own6 hloc6 hgr6 hbel6 hS6 hD6 OR5 OA5 OD5 G15 G25 hxw5 hsz5 HRD
          go_wp2
          have st : BelS (fun g => g = w.heap.size) W6 (W6.setCell ⟨w.heap.size, 5, none⟩ (.slice D6 (a + 1) k6)) := (BelS.refl _ W6).setCell _ _ rfl
          have G17 : Hid ((W6.setCell ⟨w.heap.size, 5, none⟩ (.slice D6 (a + 1) k6)).heap[w.heap.size]? = some (.cells #[.int .i64 f.pl, .int .i64 f.mi, .slice s.a1 f.tr.length s.c1, .slice s.a2 f.bl.length s.c2, .slice s.a3 f.ct.length s.c3, .slice D6 (a + 1) k6] 37 (0, 0))) := by
            have := blk_set G16.out (i := 5) (.slice D6 (a + 1) k6)
            unfold Hid; simpa using this
          have G27 := hid (st.heap G26.out (by omega))
          have OD7 := hid (st.own OD6.out (fun g hg e => by subst e; exact own_ne OD6.out G16.out (by decide) hg))
          have hSS : ∀ g, g = w.heap.size → ∃ cs T, W6.heap[g]? = some (.cells cs T (0, 0)) ∧ T ≠ 3 := fun g hg => by subst hg; exact ⟨_, _, G16.out, by decide⟩
          have OA7 := st.own OA6.out (fun g hg hs => by obtain ⟨cs, T, hh, hne⟩ := hSS g hs; exact own_ne OA6.out hh hne hg)
          have OR7 : Hid (OwnRows (W6.setCell ⟨w.heap.size, 5, none⟩ (.slice D6 (a + 1) k6)) (w.heap.size + 2) (xs ++ [.slice A b k]) ((distL f).take (a + 1))) := by
            unfold Hid
            rw [HTK.out a hlt]
            rw [HROW.out.2] at OA7
            have hl := HROW.out.1
            have := (OR6.out.keep st hSS).snoc (l := distRow f a) (A := A) (k := k) (by rw [hl]; exact OA7)
            rw [hl] at this
            exact this
          have hx7 : Ext w (W6.setCell ⟨w.heap.size, 5, none⟩ (.slice D6 (a + 1) k6)) := hxw6.setCell (Nat.le_refl _) _
          have hsz7 : w.heap.size + 2 ≤ (W6.setCell ⟨w.heap.size, 5, none⟩ (.slice D6 (a + 1) k6)).heap.size := by simp; omega
          clear st hSS OA7 G16 G26 OD6 OA6 OR6 hcr hfr
          go_roundw
          case rel => exact ⟨a + 1, D6, k6, xs ++ [.slice A b k], by omega, by go_num, G17, G27, OD7, OR7, hx7, hsz7⟩
          case measure => simp [intOf]; omega
    · have hlt' : ¬ (a : Int) < f.pl := by have := HPE.out; omega
      have haP : a = P := by omega
      subst haP
      have hor := OR.out
      rw [List.take_of_length_le (by rw [HDL.out]; exact Nat.le_refl _)] at hor
      have HOR := hid hor
      clear hor OR
      have p0 := block_cell (i := 0) G1.out
      have p1 := block_cell (i := 1) G1.out
      have p2 := block_cell (i := 2) G1.out
      have p3 := block_cell (i := 3) G1.out
      have p4 := block_cell (i := 4) G1.out
      have p5 := block_cell (i := 5) G1.out
      simp only [List.getElem?_toArray, List.getElem?_cons_zero, List.getElem?_cons_succ] at p0 p1 p2 p3 p4 p5
      have r0 := block_cell (i := 0) G2.out
      have r1 := block_cell (i := 1) G2.out
      have r2 := block_cell (i := 2) G2.out
      have r3 := block_cell (i := 3) G2.out
      have r4 := block_cell (i := 4) G2.out
      have r5 := block_cell (i := 5) G2.out
      simp only [List.getElem?_toArray, List.getElem?_cons_zero, List.getElem?_cons_succ] at r0 r1 r2 r3 r4 r5
      have rf := fun i => blk_free (i := i) G2.out
      go_wp2
      have xf : Ext w ((((((wr.setCell ⟨w.heap.size + 1, 0, none⟩ (.int .i64 f.pl)).setCell ⟨w.heap.size + 1, 1, none⟩ (.int .i64 f.mi)).setCell ⟨w.heap.size + 1, 2, none⟩ (.slice s.a1 f.tr.length s.c1)).setCell ⟨w.heap.size + 1, 3, none⟩ (.slice s.a2 f.bl.length s.c2)).setCell ⟨w.heap.size + 1, 4, none⟩ (.slice s.a3 f.ct.length s.c3)).setCell ⟨w.heap.size + 1, 5, none⟩ (.slice D a kd)) := ((((((hx.setCell (by show w.heap.size ≤ w.heap.size + 1; omega) _).setCell (by show w.heap.size ≤ w.heap.size + 1; omega) _).setCell (by show w.heap.size ≤ w.heap.size + 1; omega) _).setCell (by show w.heap.size ≤ w.heap.size + 1; omega) _).setCell (by show w.heap.size ≤ w.heap.size + 1; omega) _).setCell (by show w.heap.size ≤ w.heap.size + 1; omega) _)
      have xg : BelS (fun i => i = w.heap.size + 1) wr ((((((wr.setCell ⟨w.heap.size + 1, 0, none⟩ (.int .i64 f.pl)).setCell ⟨w.heap.size + 1, 1, none⟩ (.int .i64 f.mi)).setCell ⟨w.heap.size + 1, 2, none⟩ (.slice s.a1 f.tr.length s.c1)).setCell ⟨w.heap.size + 1, 3, none⟩ (.slice s.a2 f.bl.length s.c2)).setCell ⟨w.heap.size + 1, 4, none⟩ (.slice s.a3 f.ct.length s.c3)).setCell ⟨w.heap.size + 1, 5, none⟩ (.slice D a kd)) := (((((((BelS.refl _ wr).setCell (S := fun i => i = w.heap.size + 1) ⟨w.heap.size + 1, 0, none⟩ _ rfl).setCell (S := fun i => i = w.heap.size + 1) ⟨w.heap.size + 1, 1, none⟩ _ rfl).setCell (S := fun i => i = w.heap.size + 1) ⟨w.heap.size + 1, 2, none⟩ _ rfl).setCell (S := fun i => i = w.heap.size + 1) ⟨w.heap.size + 1, 3, none⟩ _ rfl).setCell (S := fun i => i = w.heap.size + 1) ⟨w.heap.size + 1, 4, none⟩ _ rfl).setCell (S := fun i => i = w.heap.size + 1) ⟨w.heap.size + 1, 5, none⟩ _ rfl)
      have hgs : ∀ g, g = w.heap.size + 1 → ∃ cs T, wr.heap[g]? = some (.cells cs T (0, 0)) ∧ T ≠ 3 := fun g hg => by subst hg; exact ⟨_, _, G2.out, by decide⟩
      have hres : DistR ((((((wr.setCell ⟨w.heap.size + 1, 0, none⟩ (.int .i64 f.pl)).setCell ⟨w.heap.size + 1, 1, none⟩ (.int .i64 f.mi)).setCell ⟨w.heap.size + 1, 2, none⟩ (.slice s.a1 f.tr.length s.c1)).setCell ⟨w.heap.size + 1, 3, none⟩ (.slice s.a2 f.bl.length s.c2)).setCell ⟨w.heap.size + 1, 4, none⟩ (.slice s.a3 f.ct.length s.c3)).setCell ⟨w.heap.size + 1, 5, none⟩ (.slice D a kd)) D kd (distL f) := ⟨_, xs, by rw [HDL.out]; exact xg.own OD.out (fun g hg e => by subst e; exact own_ne OD.out G2.out (by decide) hg), HOR.out.keep xg hgs⟩
      refine bodyPost_ret (v := .agg #[.int .i64 f.pl, .int .i64 f.mi, .slice s.a1 f.tr.length s.c1, .slice s.a2 f.bl.length s.c2, .slice s.a3 f.ct.length s.c3, .slice D a kd]) ?_ rfl ⟨D, kd, distL f, by rw [HDL.out], xf, .inr ⟨HT.out, rfl, hres⟩⟩
      simp [results, Tryz.results85, go_sem, r0, r1, r2, r3, r4, r5]
end Go.Proofs.YtpbpcplboikpcaaGreat

namespace Go.Proofs.YtpbpcplboikpcaaGreat
open Go Go.RowKit
set_option linter.unusedVariables false
set_option linter.unusedSimpArgs false

theorem distL_get {f : Fg} {a : Nat} (ha : a < f.pl.toNat) : (distL f)[a]? = some (distRow f a) := by unfold distL; simp [ha]
theorem distRow_get {f : Fg} {a b : Nat} (hb : b < f.pl.toNat) : (distRow f a)[b]? = some (farR f a b) := by unfold distRow; simp [hb]
theorem distL_len (f : Fg) : (distL f).length = f.pl.toNat := by simp [distL]
theorem distRow_len (f : Fg) (a : Nat) : (distRow f a).length = f.pl.toNat := by simp [distRow]
/-- A blast from a with a loudness is heard at b, as the reference asks. -/
def hearR (f : Fg) (a : Nat) (lo : Int) (b : Nat) : Bool := inB (farR f a b) 0 lo
theorem hearR_is {f : Fg} (h : FogOK f) {a b : Nat} {lo : Int} (ha : a < 8) (hb : b < 8) (h7 : lo ≤ 7) : hearR f a lo b = decide (farM f a b ≤ lo) := by
  have hlo := (far_ok h).dst.lo a b ha hb
  rw [Bool.eq_iff_iff]
  unfold hearR farR
  rw [inB_iff]
  simp only [decide_eq_true_eq, noWay]
  by_cases hc : farM f a b < 100
  · simp only [hc, if_true]; omega
  · simp only [hc, if_false]; omega
set_option maxRecDepth 100000 in
set_option maxHeartbeats 1000000 in
theorem refhears_any (v : Value) (f : Fg) (a b : Nat) (lo : Int) (w : World) (hf : RgR w v f (distL f)) (hok : FogOK f) (ha : a < f.pl.toNat) (hb : b < f.pl.toNat) :
    Calls Tryz.prog 115 #[v, .int .i64 (a : Int), .int .i64 lo, .int .i64 (b : Int)] w fun e w' => e = .returned (.bool (hearR f a lo b)) ∧ Ext w w' := by
  obtain ⟨s, A4, c4, rfl, hr, hd⟩ := hf
  obtain ⟨b1, o1, A5, k5, e1, g1, hI, -⟩ := hd.at_ (distL_get ha)
  obtain ⟨b2, o2, e2, g2⟩ := hI.at_ (distRow_get hb)
  subst e1
  subst e2
  rw [distRow_len] at g1
  obtain ⟨P, hP⟩ : ∃ P : Nat, f.pl.toNat = P := ⟨_, rfl⟩
  have HLN : Hid ((distL f).length = P) := by unfold Hid; rw [distL_len, hP]
  rw [hP] at ha hb g1
  have haP : (a : Int) < (P : Int) := by omega
  have hbP : (b : Int) < (P : Int) := by omega
  clear hP
  unfold rval hearR
  rw [HLN.out]
  generalize farR f a b = F at g2 ⊢
  obtain ⟨N, hN⟩ : ∃ N, inB F 0 lo = N := ⟨_, rfl⟩
  rw [hN]
  have HN := hid hN
  clear hN
  clear hI hd
  obtain ⟨W0, hW0⟩ : ∃ W0, w.alloc (.cells #[.int .i64 f.pl, .int .i64 f.mi, .slice s.a1 f.tr.length s.c1, .slice s.a2 f.bl.length s.c2, .slice s.a3 f.ct.length s.c3, .slice (some ⟨b1, o1, none⟩) P c4] 37) = W0 := ⟨_, rfl⟩
  have hx0 : Ext w W0 := by rw [← hW0]; exact Ext.alloc (Ext.refl w) _
  have q5 : W0.cell? ⟨w.heap.size, 5, none⟩ = some (.slice (some ⟨b1, o1, none⟩) P c4) := by rw [← hW0]; simp [go_sem]
  have g1 := hx0.cell g1
  have g2 := hx0.cell g2
  go_enter Tryz.func115, Tryz.ntmps115
  go_wp2_with fail
  try rw [hW0]
  refine (off_any _ _ _ _).mono ?_
  rintro e w1 ⟨rfl, rfl⟩
  cases hq : inB F 0 lo
  · have H : Hid (N = false) := HN.out.symm.trans hq
    go_wp2
    go_ret
    exact ⟨ret_of (bool_of H.out.symm), hx0⟩
  · have H : Hid (N = true) := HN.out.symm.trans hq
    go_wp2
    go_ret
    exact ⟨ret_of (bool_of H.out.symm), hx0⟩

/-- The places at which a blast is heard. -/
def hearL (f : Fg) (b : Bl) (k : Nat) : List Nat := (List.range k).filter (hearR f b.pl.toNat b.lo)
theorem hearL_next (f : Fg) (b : Bl) (k : Nat) : hearL f b (k + 1) = hearL f b k ++ (if hearR f b.pl.toNat b.lo k then [k] else []) := by
  unfold hearL
  rw [List.range_succ, List.filter_append]
  congr 1
  cases h : hearR f b.pl.toNat b.lo k <;> simp [h]
theorem hearL_len (f : Fg) (b : Bl) (k : Nat) : (hearL f b k).length ≤ k := by
  have := List.length_filter_le (hearR f b.pl.toNat b.lo) (List.range k)
  simpa [hearL] using this
def natV (l : List Nat) : List Value := (natI l).map (.int .i64)
theorem natV_len (l : List Nat) : (natV l).length = l.length := by simp [natV, natI]
set_option maxRecDepth 100000 in
set_option maxHeartbeats 2000000 in
theorem refplaces_any (v : Value) (f : Fg) (i : Nat) (x : Bl) (w : World) (hf : RgR w v f (distL f)) (hok : FogOK f) (hi : f.bl[i]? = some x) :
    Calls Tryz.prog 21 #[v, .int .i64 (i : Int)] w fun e w' => ∃ r, e = .returned r ∧ Ext w w' ∧ IntsR w' r (natI (hearL f x f.pl.toNat)) := by
  have HF := hid hf
  obtain ⟨s, A4, c4, rfl, hr, hd⟩ := hf
  have HOK := hid hok
  obtain ⟨b1, o1, e1, g0, g1, g2⟩ := Blasts.at_ hr.bl hi
  have hil : i < f.bl.length := (List.getElem?_eq_some_iff.1 hi).1
  have hil' : (i : Int) < (f.bl.length : Int) := by omega
  have hxb := hok.bl x (mem_of_get hi)
  obtain ⟨P, hP⟩ : ∃ P : Nat, f.pl = P := ⟨f.pl.toNat, by have := hok.pl; omega⟩
  have hP8 : P ≤ 8 := by have := hok.pl; omega
  have HPE := hid hP
  have HPN : Hid (f.pl.toNat = P) := by unfold Hid; omega
  obtain ⟨bp, hbp⟩ : ∃ bp : Nat, x.pl = bp := ⟨x.pl.toNat, by omega⟩
  have hbpP : bp < P := by omega
  have HBP : Hid (x.pl.toNat = bp) := by unfold Hid; omega
  rw [hbp] at g1
  clear hP hbp hxb hi
  rw [HPN.out]
  obtain ⟨W0, hW0⟩ : ∃ W0, (w.alloc (.cells #[.int .i64 f.pl, .int .i64 f.mi, .slice s.a1 f.tr.length s.c1, .slice s.a2 f.bl.length s.c2, .slice s.a3 f.ct.length s.c3, .slice A4 (distL f).length c4] 37)).alloc (.cells #[.int .i64 x.mi, .int .i64 (bp : Int), .int .i64 x.lo] 126) = W0 := ⟨_, rfl⟩
  have hx0 : Ext w W0 := by rw [← hW0]; exact (Ext.alloc (Ext.refl w) _).alloc _
  have g0a := fun o => (Ext.alloc (Ext.refl w) o).cell g0
  have g1a := fun o => (Ext.alloc (Ext.refl w) o).cell g1
  have g2a := fun o => (Ext.alloc (Ext.refl w) o).cell g2
  have FX : Hid (∀ w', Ext W0 w' → (w'.cell? ⟨w.heap.size, 0, none⟩ = some (.int .i64 f.pl) ∧ w'.cell? ⟨w.heap.size, 1, none⟩ = some (.int .i64 f.mi) ∧ w'.cell? ⟨w.heap.size, 2, none⟩ = some (.slice s.a1 f.tr.length s.c1) ∧ w'.cell? ⟨w.heap.size, 3, none⟩ = some (.slice s.a2 f.bl.length s.c2) ∧ w'.cell? ⟨w.heap.size, 4, none⟩ = some (.slice s.a3 f.ct.length s.c3) ∧ w'.cell? ⟨w.heap.size, 5, none⟩ = some (.slice A4 (distL f).length c4)) ∧
      w'.cell? ⟨w.heap.size + 1, 1, none⟩ = some (.int .i64 (bp : Int)) ∧ w'.cell? ⟨w.heap.size + 1, 2, none⟩ = some (.int .i64 x.lo)) := fun w' h =>
    ⟨⟨h.cell (by rw [← hW0]; simp [go_sem]), h.cell (by rw [← hW0]; simp [go_sem]), h.cell (by rw [← hW0]; simp [go_sem]), h.cell (by rw [← hW0]; simp [go_sem]), h.cell (by rw [← hW0]; simp [go_sem]), h.cell (by rw [← hW0]; simp [go_sem])⟩, h.cell (by rw [← hW0]; simp [go_sem]), h.cell (by rw [← hW0]; simp [go_sem])⟩
  unfold rval at HF ⊢
  rw [e1] at HF FX hW0 ⊢
  generalize hDL : (distL f).length = DL at HF FX hW0 ⊢
  clear hDL
  go_enter Tryz.func21, Tryz.ntmps21
  clear e1
  go_wp2
  clear g0 g1 g2 g0a g1a g2a hW0
  go_loopw [7, 5] (fun i7 i5 wr => ∃ (k : Nat) (A : Option Addr) (c : Nat), k ≤ P ∧ i7 = .int .i64 (k : Int) ∧ i5 = .slice A (hearL f x k).length c ∧ Hid (wr.ownsRow W0.heap.size 3 1 (.slice A (hearL f x k).length c) (hearL f x k).length (natV (hearL f x k))) ∧ Ext W0 wr) (fun i _ _ => P - (intOf i).toNat)
  case atStart => exact ⟨0, none, 0, Nat.zero_le _, rfl, rfl, own_nil _ _ _ _, Ext.refl _⟩
  case round =>
    obtain ⟨k, A, c, hk, rfl, rfl, OA, hx⟩ := hrel
    obtain ⟨⟨q0, q1, q2, q3, q4, q5⟩, s1, s2⟩ := FX.out wr hx
    have hll := hearL_len f x k
    by_cases hlt : k < P
    · have hlt' : (k : Int) < f.pl := by have := HPE.out; omega
      have hbq : bp < f.pl.toNat := by rw [HPN.out]; exact hbpP
      have hkq : k < f.pl.toNat := by rw [HPN.out]; exact hlt
      go_wp2_with fail
      clear q0 q1 q2 q3 q4 q5 s1 s2
      refine (refhears_any _ f bp k x.lo wr (by have := HF.out.ext (hx0.trans hx); exact this) HOK.out hbq hkq).mono ?_
      rintro e w2 ⟨rfl, hb2⟩
      have HNX := hid (hearL_next f x k)
      rw [HBP.out] at HNX
      clear hbq hkq
      cases hq : hearR f bp x.lo k
      · have HSM : Hid (hearL f x (k + 1) = hearL f x k) := by unfold Hid; rw [HNX.out, hq]; simp
        have OA2 := hid (own_below OA.out hb2)
        clear OA HNX hq
        go_wp2
        go_roundw
        case rel => exact ⟨k + 1, A, c, by omega, by go_num, by rw [HSM.out], by rw [HSM.out]; exact OA2, hx.trans hb2⟩
        case measure => simp [intOf]; omega
      · have HSM : Hid (hearL f x (k + 1) = hearL f x k ++ [k]) := by unfold Hid; rw [HNX.out, hq]; simp
        obtain ⟨W5, hW5⟩ : ∃ W5, w2.alloc (.cells #[.int .i64 (k : Int)] 3) = W5 := ⟨_, rfl⟩
        have hx5 : Ext w2 W5 := by rw [← hW5]; exact Ext.alloc (Ext.refl _) _
        have HRD : Hid (Rd W5 (some ⟨w2.heap.size, 0, none⟩) [.int .i64 (k : Int)]) := .inr ⟨w2.heap.size, 0, rfl, fun j u hu => by
          match j, hu with
          | 0, hu => cases hu; rw [← hW5]; simp [go_sem]
          | j + 1, hu => simp at hu⟩
        have OW5 := hid (own_below OA.out (hb2.trans hx5))
        have hxw5 := hid (hx.trans (hb2.trans hx5))
        have hsz5 := hxw5.out.size
        have HNV : Hid (natV (hearL f x k) ++ [.int .i64 (k : Int)] = natV (hearL f x (k + 1))) := by unfold Hid; rw [HSM.out]; simp [natV, natI]
        have HLE : Hid ((hearL f x (k + 1)).length = (hearL f x k).length + 1) := by unfold Hid; rw [HSM.out]; simp
        have hnb : ((hearL f x k).length + 1) * 8 ≤ 140737488355328 := by omega
        clear OA HNX hq HSM
        go_wp2_with (at_builtin; (try rw [hW5]); refine wpList_append_rd2 _ rfl _ _ 42 rfl elem_int W0.heap.size _ (hearL f x k).length (natV (hearL f x k)) rfl OW5.out (some ⟨w2.heap.size, 0, none⟩) 1 1 [.int .i64 (k : Int)] rfl rfl HRD.out (by intro u hu; simp at hu; subst hu; rfl) hnb hsz5 ?_)
        intro A6 k6 W6 own6 hbel6 hgr6 hloc6
        rw [HNV.out] at own6
        have hxw6 : Ext W0 W6 := Ext.grown hxw5.out hgr6 (fun k e => (OW5.out.lt k e).1)
        have HO6 := hid own6
        clear own6 hloc6 hgr6 hbel6
        go_wp2
        go_roundw
        case rel => exact ⟨k + 1, A6, k6, by omega, by go_num, by rw [HLE.out], by rw [HLE.out]; exact HO6, hxw6⟩
        case measure => simp [intOf]; omega
    · have hlt' : ¬ (k : Int) < f.pl := by have := HPE.out; omega
      have hkP : k = P := by omega
      subst hkP
      go_wp2
      go_ret
      refine ⟨_, rfl, hx0.trans hx, A, c, ?_, ?_, ?_⟩
      · congr 1; simp [natI]
      · exact Rd.of_own OA.out
      · have := own_cap OA.out; simpa [natI] using this
end Go.Proofs.YtpbpcplboikpcaaGreat

namespace Go.Proofs.YtpbpcplboikpcaaGreat
open Go Go.RowKit Go.Shelf
set_option linter.unusedVariables false
set_option linter.unusedSimpArgs false

/-- append of as many elements as there is room for. -/
theorem wpList_append_fit {P : Program} (w : World) {ops : Array Oper} {rest : List Oper} {o : Oper} {a : Act} {Q : Exit → Act → World → Prop} (hgd : o.guard = none) (s x : Operand) (t : TypeId)
    (ho : o.op = .call { callee := .builtin .append, args := #[s, x], argTypes := #[t, t] }) {e : TypeId} {size bytes : Nat} (E : ElemOK P t e size bytes) (base : Nat)
    (g n cap : Nat) (xs : List Value) (hs : a.eval s = .slice (some ⟨g, 0, none⟩) n cap) (hown : w.ownsRow base e size (.slice (some ⟨g, 0, none⟩) n cap) n xs) (A : Option Addr) (m c : Nat) (news : List Value) (hx : a.eval x = .slice A m c)
    (hl : news.length = m * size) (hr : Rd w A news) (h1 : ∀ u ∈ news, u.oneCell' = true) (hroom : n + m ≤ cap)
    (h : ∀ w', w'.ownsRow base e size (.slice (some ⟨g, 0, none⟩) (n + m) cap) (n + m) (xs ++ news) → w.grownBy w' (some g) → wpList P ops Q rest (a.put o.dst (.slice (some ⟨g, 0, none⟩) (n + m) cap)) w') : wpList P ops Q (o :: rest) a w := by
  obtain ⟨ht, ⟨i, z, hi, hz, hsize, hby, hzs⟩, hsz, hbp⟩ := E
  rcases A with _ | ad
  · have hn : news = [] := by
      rcases hr with h | ⟨b, off, h, _⟩
      · exact h
      · cases h
    subst hn
    have hm : m = 0 := by
      rcases Nat.eq_zero_or_pos m with h0 | h0
      · exact h0
      · have := Nat.mul_pos h0 hsz; simp at hl; omega
    subst hm
    refine wpList_plain hgd fun K hK => ?_
    have hrun : (Builtin.append_ #[t, t] o.type #[.slice (some ⟨g, 0, none⟩) n cap, .slice none 0 c]).run P w = .ok (.slice (some ⟨g, 0, none⟩) n cap) w := by
      have hnc : n ≤ cap := by omega
      simp [Builtin.append_, run_underlying ht, sizeOf, typeInfo, hi, Builtin.lenOf, Builtin.firstCells, hnc, storeCells]
    unfold Oper.wp
    simp [execOp, ho, resolve, invoke, builtin, hs, hx, hrun, Result.andThen]
    exact hK _ _ (h w (by simpa using hown) (World.grownBy.refl w _))
  · have hcells : ∀ j u, news[j]? = some u → w.cell? (ad.add j) = some u := by
      intro j u hu
      rcases hr with h | ⟨b, off, h, hc⟩
      · subst h; simp at hu
      · cases h
        rw [Addr.add_lit]
        exact hc j u hu
    exact wpList_append_fits w hgd s x t ho base e i size ht hi hsize g n cap xs hs hown ad m c news hx hl hcells h1 hroom h
set_option maxHeartbeats 1000000 in
theorem dup_full (A : Option Addr) (c : Nat) (l : List Rp) (w : World) (hA : Reps w A l) (hl : l.length * 16 ≤ 140737488355328) :
    Calls Tryz.prog 84 #[.slice A l.length c] w fun e w' => ∃ g, e = .returned (.slice (some ⟨g, 0, none⟩) l.length l.length) ∧ w'.ownsRow w.heap.size 53 2 (.slice (some ⟨g, 0, none⟩) l.length l.length) l.length (layRp.rows l) ∧ Ext w w' := by
  obtain ⟨_, ⟨i, z, hi, hz, hsize, hby, hzs⟩, _, _⟩ := elem_rep
  have hm : l.length ≤ maxLen := by simp only [maxLen]; omega
  have hb2 : i.bytes * l.length ≤ 281474976710656 := by rw [hby]; omega
  have H2 := hid hm
  have H3 := hid hb2
  have H4 := hid hi
  have H5 := hid hz
  have H6 := hid hsize
  have HL : Hid ((layRp.rows l).length = l.length * 2) := hid (layRp.rows_len l)
  clear hm hb2 hi hz hsize hby hzs
  go_enter Tryz.func84, Tryz.ntmps84
  go_wp2_with (at_make; refine wpList_make_own _ rfl _ _ 60 rfl w.heap.size 53 i z 2 Tryz.underlying60 H4.out H5.out H6.out .i64 .i64 _ l.length rfl rfl rfl H3.out H2.out (Nat.le_refl _) ?_)
  intro w1 hown1 hgr1
  have hx1 : Ext w w1 := Ext.grown (Ext.refl w) hgr1 (fun k e => by cases e)
  have H1 := hid hown1
  have hsz := hx1.size
  clear hown1 hgr1
  go_wp2_with (at_builtin; refine wpList_append_fit _ rfl _ _ 60 rfl elem_rep w.heap.size _ 0 _ [] rfl H1.out A l.length c (layRp.rows l) rfl HL.out (Rd.ext hA hx1) (layRp.rows_one l) (by omega) ?_)
  intro w5 hown5 hgr5
  have hx5 : Ext w w5 := Ext.grown hx1 hgr5 (fun k e => (H1.out.lt k e).1)
  have H7 : Hid (w5.ownsRow w.heap.size 53 2 (.slice (some ⟨w.heap.size, 0, none⟩) l.length l.length) l.length (layRp.rows l)) := by
    unfold Hid; simpa using hown5
  have H8 := hid hx5
  clear hown5 hgr5 hx5 hx1
  go_wp2
  go_ret
  exact ⟨_, by simp, H7.out, H8.out⟩

/-- The two cells of a cart whose rows are the call's own (of reports no room is left, where the mark says so). -/
def OC (fl : Bool) (w : World) (B : Nat) (a b : Value) (x : Ct) : Prop := (∃ A k, a = .slice A x.st.length k ∧ w.ownsRow B 3 1 (.slice A x.st.length k) x.st.length (x.st.map (.int .i64))) ∧ ∃ A k, b = .slice A x.rp.length k ∧ w.ownsRow B 53 2 (.slice A x.rp.length k) x.rp.length (layRp.rows x.rp) ∧ (fl = true → k = x.rp.length)
theorem OC.ext {fl : Bool} {w w' : World} {B : Nat} {a b : Value} {x : Ct} (h : OC fl w B a b x) (hx : Ext w w') : OC fl w' B a b x := by
  obtain ⟨⟨A, k, e1, h1⟩, A', k', e2, h2, h3⟩ := h
  exact ⟨⟨A, k, e1, own_below h1 hx⟩, A', k', e2, own_below h2 hx, h3⟩
theorem OC.keep {fl : Bool} {S : Nat → Prop} {w w' : World} {B : Nat} {a b : Value} {x : Ct} (h : OC fl w B a b x) (hb : BelS S w w') (hS : ∀ g, S g → ∃ cs T, w.heap[g]? = some (.cells cs T (0, 0)) ∧ T ≠ 3 ∧ T ≠ 53) : OC fl w' B a b x := by
  obtain ⟨⟨A, k, e1, h1⟩, A', k', e2, h2, h3⟩ := h
  exact ⟨⟨A, k, e1, hb.own h1 (fun g hg hs => by obtain ⟨cs, T, hh, hne, _⟩ := hS g hs; exact own_ne h1 hh hne hg)⟩, A', k', e2, hb.own h2 (fun g hg hs => by obtain ⟨cs, T, hh, _, hne⟩ := hS g hs; exact own_ne h2 hh hne hg), h3⟩
def OCt (fl : Bool) (w : World) (B : Nat) : List Value → List Ct → Prop
  | [], [] => True
  | a :: b :: xs, x :: l => OC fl w B a b x ∧ OCt fl w B xs l
  | _, _ => False
theorem OCt.keep {S : Nat → Prop} {fl : Bool} {w w' : World} {B : Nat} (hb : BelS S w w') (hS : ∀ g, S g → ∃ cs T, w.heap[g]? = some (.cells cs T (0, 0)) ∧ T ≠ 3 ∧ T ≠ 53) : ∀ {xs : List Value} {l : List Ct}, OCt fl w B xs l → OCt fl w' B xs l
  | [], [], _ => trivial
  | a :: b :: xs, x :: l, h => ⟨h.1.keep hb hS, OCt.keep hb hS h.2⟩
  | [_], _, h => by cases ‹List Ct› <;> exact h.elim
theorem OCt.ext {fl : Bool} {w w' : World} {B : Nat} (hx : Ext w w') : ∀ {xs : List Value} {l : List Ct}, OCt fl w B xs l → OCt fl w' B xs l
  | [], [], _ => trivial
  | a :: b :: xs, x :: l, h => ⟨h.1.ext hx, OCt.ext hx h.2⟩
  | [_], _, h => by cases ‹List Ct› <;> exact h.elim
theorem OCt.snoc {fl : Bool} {w : World} {B : Nat} {a b : Value} {x : Ct} (hc : OC fl w B a b x) : ∀ {xs : List Value} {l : List Ct}, OCt fl w B xs l → OCt fl w B (xs ++ [a, b]) (l ++ [x])
  | [], [], _ => ⟨hc, trivial⟩
  | _ :: _ :: xs, _ :: l, h => ⟨h.1, OCt.snoc hc h.2⟩
  | [_], _, h => by cases ‹List Ct› <;> exact h.elim
theorem OCt.toC {fl : Bool} {w : World} {B : Nat} : ∀ {xs : List Value} {l : List Ct}, OCt fl w B xs l → CtC w xs l
  | [], [], _ => trivial
  | a :: b :: xs, x :: l, h => by
    obtain ⟨⟨⟨A, k, e1, h1⟩, A', k', e2, h2, -⟩, h3⟩ := h
    exact ⟨⟨A, k, e1, Rd.of_own h1, own_cap h1⟩, ⟨A', k', e2, Rd.of_own h2, own_cap h2⟩, OCt.toC h3⟩
  | [_], _, h => by cases ‹List Ct› <;> exact h.elim
/-- A fog whose rows are the call's own. -/
def OwnF (w : World) (v : Value) (f : Fg) : Prop := ∃ B g1 q1 g2 q2 D kd xs, v = fval f (some ⟨g1, 0, none⟩) q1 (some ⟨g2, 0, none⟩) q2 D kd ∧ w.ownsRow B 68 2 (.slice (some ⟨g1, 0, none⟩) f.tr.length q1) f.tr.length (layPr.rows f.tr) ∧ w.ownsRow B 124 3 (.slice (some ⟨g2, 0, none⟩) f.bl.length q2) f.bl.length (layBl.rows f.bl) ∧ w.ownsRow B 62 2 (.slice D f.ct.length kd) f.ct.length xs ∧ OCt true w B xs f.ct
theorem OwnF.fg {w : World} {v : Value} {f : Fg} (h : OwnF w v f) : FgR w v f := by
  obtain ⟨B, g1, q1, g2, q2, D, kd, xs, rfl, h1, h2, h3, h4⟩ := h
  exact ⟨_, _, _, _, _, _, rfl, Rd.of_own h1, Rd.of_own h2, ⟨xs, Rd.of_own h3, h4.toC⟩, own_cap h1, own_cap h2, own_cap h3⟩
theorem OwnF.ext {w w' : World} {v : Value} {f : Fg} (h : OwnF w v f) (hx : Ext w w') : OwnF w' v f := by
  obtain ⟨B, g1, q1, g2, q2, D, kd, xs, rfl, h1, h2, h3, h4⟩ := h
  exact ⟨B, g1, q1, g2, q2, D, kd, xs, rfl, own_below h1 hx, own_below h2 hx, own_below h3 hx, h4.ext hx⟩
/-- Blocks of no type that a fog's rows have. -/
def FogB (w : World) (S : Nat → Prop) : Prop := ∀ g, S g → ∃ cs T, w.heap[g]? = some (.cells cs T (0, 0)) ∧ T ≠ 68 ∧ T ≠ 124 ∧ T ≠ 62 ∧ T ≠ 3 ∧ T ≠ 53
theorem OwnF.keep {S : Nat → Prop} {w w' : World} {v : Value} {f : Fg} (h : OwnF w v f) (hb : BelS S w w') (hS : FogB w S) : OwnF w' v f := by
  obtain ⟨B, g1, q1, g2, q2, D, kd, xs, rfl, h1, h2, h3, h4⟩ := h
  refine ⟨B, g1, q1, g2, q2, D, kd, xs, rfl, hb.own h1 (fun g hg hs => ?_), hb.own h2 (fun g hg hs => ?_), hb.own h3 (fun g hg hs => ?_), OCt.keep hb (fun g hg => ?_) h4⟩
  · obtain ⟨cs, T, hh, n1, n2, n3, n4, n5⟩ := hS g hs; exact own_ne h1 hh n1 hg
  · obtain ⟨cs, T, hh, n1, n2, n3, n4, n5⟩ := hS g hs; exact own_ne h2 hh n2 hg
  · obtain ⟨cs, T, hh, n1, n2, n3, n4, n5⟩ := hS g hs; exact own_ne h3 hh n3 hg
  · obtain ⟨cs, T, hh, n1, n2, n3, n4, n5⟩ := hS g hg; exact ⟨cs, T, hh, n4, n5⟩
def OwnPost (w : World) (f : Fg) (e : Ending) (w' : World) : Prop := ∃ v, e = .returned v ∧ Ext w w' ∧ OwnF w' v f
/-- A fog whose rows are the call's own, from a block on. -/
def OwnFB (w : World) (B : Nat) (v : Value) (f : Fg) : Prop := ∃ g1 q1 g2 q2 D kd xs, v = fval f (some ⟨g1, 0, none⟩) q1 (some ⟨g2, 0, none⟩) q2 D kd ∧ w.ownsRow B 68 2 (.slice (some ⟨g1, 0, none⟩) f.tr.length q1) f.tr.length (layPr.rows f.tr) ∧ w.ownsRow B 124 3 (.slice (some ⟨g2, 0, none⟩) f.bl.length q2) f.bl.length (layBl.rows f.bl) ∧ w.ownsRow B 62 2 (.slice D f.ct.length kd) f.ct.length xs ∧ OCt true w B xs f.ct
def OwnPostB (w : World) (f : Fg) (e : Ending) (w' : World) : Prop := ∃ v B, e = .returned v ∧ Ext w w' ∧ w.heap.size ≤ B ∧ OwnFB w' B v f

set_option maxRecDepth 100000 in
set_option maxHeartbeats 1000000 in
theorem own_at_ (v : Value) (f : Fg) (w : World) (hf : FgR w v f) (hs : f.sized) :
    Calls Tryz.prog 16 #[v] w (OwnPostB w f) := by
  obtain ⟨a1, c1, a2, c2, a3, c3, rfl, hT, hB, hC, -⟩ := hf
  have hz := hs
  obtain ⟨z1, z2, z3, z4⟩ := hz
  have Z4 := hid z4
  clear z4
  obtain ⟨W0, hW0⟩ : ∃ W0, (w.alloc (.cells #[.int .i64 f.pl, .int .i64 f.mi, .slice a1 f.tr.length c1, .slice a2 f.bl.length c2, .slice a3 f.ct.length c3] 28)).alloc (.cells #[.int .i64 0, .int .i64 0, .slice none 0 0, .slice none 0 0, .slice none 0 0] 28) = W0 := ⟨_, rfl⟩
  have hx0 : Ext w W0 := by rw [← hW0]; exact (Ext.alloc (Ext.refl w) _).alloc _
  have sz0 : W0.heap.size = w.heap.size + 2 := by rw [← hW0]; simp
  have G0 : Hid (W0.heap[w.heap.size]? = some (.cells #[.int .i64 f.pl, .int .i64 f.mi, .slice a1 f.tr.length c1, .slice a2 f.bl.length c2, .slice a3 f.ct.length c3] 28 (0, 0))) := by
    unfold Hid; rw [← hW0]
    exact (Below.block (Ext.alloc (Ext.refl _) _) _ (by simp)).trans (heap_alloc_new w _)
  have G2 : Hid (W0.heap[(w.heap.size + 1)]? = some (.cells #[.int .i64 0, .int .i64 0, .slice none 0 0, .slice none 0 0, .slice none 0 0] 28 (0, 0))) := by
    unfold Hid; rw [← hW0]
    have := heap_alloc_new (w.alloc (.cells #[.int .i64 f.pl, .int .i64 f.mi, .slice a1 f.tr.length c1, .slice a2 f.bl.length c2, .slice a3 f.ct.length c3] 28)) (.cells #[.int .i64 0, .int .i64 0, .slice none 0 0, .slice none 0 0, .slice none 0 0] 28)
    simpa using this
  unfold fval
  have p0 := block_cell (i := 0) G0.out
  have p1 := block_cell (i := 1) G0.out
  have p2 := block_cell (i := 2) G0.out
  have p3 := block_cell (i := 3) G0.out
  have p4 := block_cell (i := 4) G0.out
  simp only [List.getElem?_toArray, List.getElem?_cons_zero, List.getElem?_cons_succ] at p0 p1 p2 p3 p4
  have FX : Hid (∀ w', Ext W0 w' → w'.cell? ⟨w.heap.size, 0, none⟩ = some (.int .i64 f.pl) ∧ w'.cell? ⟨w.heap.size, 1, none⟩ = some (.int .i64 f.mi) ∧ w'.cell? ⟨w.heap.size, 2, none⟩ = some (.slice a1 f.tr.length c1) ∧ w'.cell? ⟨w.heap.size, 3, none⟩ = some (.slice a2 f.bl.length c2)) := fun w' h => ⟨h.cell p0, h.cell p1, h.cell p2, h.cell p3⟩
  clear p0 p1 p2 p3 p4
  go_enter Tryz.func16, Tryz.ntmps16
  go_wp2_with fail
  try rw [hW0]
  clear hW0
  refine wp_region_shut_tail Ext (fun w' => Ext W0 w') (fun
    | 9 => some (fun v w' => ∃ g q, v = .slice (some ⟨g, 0, none⟩) f.tr.length q ∧ w'.ownsRow (w.heap.size + 2) 68 2 (.slice (some ⟨g, 0, none⟩) f.tr.length q) f.tr.length (layPr.rows f.tr))
    | 13 => some (fun v w' => ∃ g q, v = .slice (some ⟨g, 0, none⟩) f.bl.length q ∧ w'.ownsRow (w.heap.size + 2) 124 3 (.slice (some ⟨g, 0, none⟩) f.bl.length q) f.bl.length (layBl.rows f.bl))
    | 15 => some (fun v w' => ∃ B, v = .pointer (some ⟨B, 0, none⟩) ∧ (w.heap.size + 2) ≤ B ∧ w'.heap[B]? = some (.cells #[.int .i64 0, .int .i64 0, .slice none 0 0, .slice none 0 0, .slice none 0 0] 28 (0, 0)))
    | _ => none) 16 (by kernel_rfl) (by kernel_rfl) (fun _ _ h k => h.trans k) ?hT (Ext.drew (Ext.refl W0)) ?_
  case hT =>
    intro i R hR
    match i, hR with
    | 9, hR => cases hR; exact fun _ _ _ ⟨g, q, h1, h2⟩ k => ⟨g, q, h1, own_below h2 k⟩
    | 13, hR => cases hR; exact fun _ _ _ ⟨g, q, h1, h2⟩ k => ⟨g, q, h1, own_below h2 k⟩
    | 15, hR => cases hR; exact fun _ _ _ ⟨B, h1, h2, h3⟩ k => ⟨B, h1, h2, (Below.block k _ (Array.getElem?_eq_some_iff.1 h3).1).trans h3⟩
  refine wM_val ?ua0 rfl rfl Ext.refl (fun w' hD => ?ha0) (fun pha0 => ?na0)
  case ha0 =>
    obtain ⟨d0, d1, d2, d3⟩ := FX.out w' hD.1
    go_simp; rfl
  simp only [Act.put, List.setIfInBounds_toArray, List.set_cons_succ, List.set_cons_zero, Nat.reduceAdd]
  refine wM_val ?ua1 rfl rfl Ext.refl (fun w' hD => ?ha1) (fun pha1 => ?na1)
  case ha1 =>
    obtain ⟨d0, d1, d2, d3⟩ := FX.out w' hD.1
    go_simp; rfl
  simp only [Act.put, List.setIfInBounds_toArray, List.set_cons_succ, List.set_cons_zero, Nat.reduceAdd]
  refine wM_val ?ua2 rfl rfl Ext.refl (fun w' hD => ?ha2) (fun pha2 => ?na2)
  case ha2 =>
    obtain ⟨d0, d1, d2, d3⟩ := FX.out w' hD.1
    go_simp; rfl
  simp only [Act.put, List.setIfInBounds_toArray, List.set_cons_succ, List.set_cons_zero, Nat.reduceAdd]
  refine wM_val ?ua3 rfl rfl Ext.refl (fun w' hD => ?ha3) (fun pha3 => ?na3)
  case ha3 =>
    obtain ⟨d0, d1, d2, d3⟩ := FX.out w' hD.1
    go_simp; rfl
  simp only [Act.put, List.setIfInBounds_toArray, List.set_cons_succ, List.set_cons_zero, Nat.reduceAdd]
  refine wM_val ?ua4 rfl rfl Ext.refl (fun w' hD => ?ha4) (fun pha4 => ?na4)
  case ha4 =>
    obtain ⟨d0, d1, d2, d3⟩ := FX.out w' hD.1
    go_simp; rfl
  simp only [Act.put, List.setIfInBounds_toArray, List.set_cons_succ, List.set_cons_zero, Nat.reduceAdd]
  refine wM_val ?ua5 rfl rfl Ext.refl (fun w' hD => ?ha5) (fun pha5 => ?na5)
  case ha5 =>
    obtain ⟨d0, d1, d2, d3⟩ := FX.out w' hD.1
    go_simp; rfl
  simp only [Act.put, List.setIfInBounds_toArray, List.set_cons_succ, List.set_cons_zero, Nat.reduceAdd]
  refine wM_val ?ua6 rfl rfl Ext.refl (fun w' hD => ?ha6) (fun pha6 => ?na6)
  case ha6 =>
    obtain ⟨d0, d1, d2, d3⟩ := FX.out w' hD.1
    go_simp; rfl
  simp only [Act.put, List.setIfInBounds_toArray, List.set_cons_succ, List.set_cons_zero, Nat.reduceAdd]
  refine wM_val ?ua7 rfl rfl Ext.refl (fun w' hD => ?ha7) (fun pha7 => ?na7)
  case ha7 =>
    obtain ⟨d0, d1, d2, d3⟩ := FX.out w' hD.1
    go_simp; rfl
  simp only [Act.put, List.setIfInBounds_toArray, List.set_cons_succ, List.set_cons_zero, Nat.reduceAdd]
  refine wM_val ?ua8 rfl rfl Ext.refl (fun w' hD => ?ha8) (fun pha8 => ?na8)
  case ha8 =>
    obtain ⟨d0, d1, d2, d3⟩ := FX.out w' hD.1
    go_simp; rfl
  simp only [Act.put, List.setIfInBounds_toArray, List.set_cons_succ, List.set_cons_zero, Nat.reduceAdd]
  refine wM_op _ rfl rfl (opens_call ?fa9 ?ga9 (fun w' hD => ?ha9) (fun w' hD => ?ca9)) (fun v9 hv9 => ?na9)
  case ha9 => go_simp; constructor <;> rfl
  case ca9 =>
    refine (dup_pair a1 c1 f.tr w' (Rows.ext hT (hx0.trans hD.1)) (by omega)).mono ?_
    rintro e w2 ⟨g, q, rfl, ho, hb⟩
    exact ⟨_, rfl, hb, g, q, rfl, own_base ho (by have := hD.1.size; omega)⟩
  obtain ⟨_, -, -, g1, q1, rfl, -⟩ := hv9
  simp only [Act.put, List.setIfInBounds_toArray, List.set_cons_succ, List.set_cons_zero, Nat.reduceAdd]
  refine wM_val ?ua10 rfl rfl Ext.refl (fun w' hD => ?ha10) (fun pha10 => ?na10)
  case ha10 =>
    obtain ⟨d0, d1, d2, d3⟩ := FX.out w' hD.1
    go_simp; rfl
  simp only [Act.put, List.setIfInBounds_toArray, List.set_cons_succ, List.set_cons_zero, Nat.reduceAdd]
  refine wM_val ?ua11 rfl rfl Ext.refl (fun w' hD => ?ha11) (fun pha11 => ?na11)
  case ha11 =>
    obtain ⟨d0, d1, d2, d3⟩ := FX.out w' hD.1
    go_simp; rfl
  simp only [Act.put, List.setIfInBounds_toArray, List.set_cons_succ, List.set_cons_zero, Nat.reduceAdd]
  refine wM_val ?ua12 rfl rfl Ext.refl (fun w' hD => ?ha12) (fun pha12 => ?na12)
  case ha12 =>
    obtain ⟨d0, d1, d2, d3⟩ := FX.out w' hD.1
    go_simp; rfl
  simp only [Act.put, List.setIfInBounds_toArray, List.set_cons_succ, List.set_cons_zero, Nat.reduceAdd]
  refine wM_op _ rfl rfl (opens_call ?fa13 ?ga13 (fun w' hD => ?ha13) (fun w' hD => ?ca13)) (fun v13 hv13 => ?na13)
  case ha13 => go_simp; constructor <;> rfl
  case ca13 =>
    refine (dup_blast a2 c2 f.bl w' (Rows.ext hB (hx0.trans hD.1)) (by omega)).mono ?_
    rintro e w2 ⟨g, q, rfl, ho, hb⟩
    exact ⟨_, rfl, hb, g, q, rfl, own_base ho (by have := hD.1.size; omega)⟩
  obtain ⟨_, -, -, g2, q2, rfl, -⟩ := hv13
  simp only [Act.put, List.setIfInBounds_toArray, List.set_cons_succ, List.set_cons_zero, Nat.reduceAdd]
  refine wM_val ?ua14 rfl rfl Ext.refl (fun w' hD => ?ha14) (fun pha14 => ?na14)
  case ha14 =>
    obtain ⟨d0, d1, d2, d3⟩ := FX.out w' hD.1
    go_simp; rfl
  simp only [Act.put, List.setIfInBounds_toArray, List.set_cons_succ, List.set_cons_zero, Nat.reduceAdd]
  refine wM_op _ rfl rfl (opens_val (fun w' hD => ?ha15)) (fun v15 hv15 => ?na15)
  case ha15 =>
    refine ⟨.pointer (some ⟨w'.heap.size, 0, none⟩), w'.alloc (.cells #[.int .i64 0, .int .i64 0, .slice none 0 0, .slice none 0 0, .slice none 0 0] 28), ?_, Ext.alloc (Ext.refl _) _, ⟨w'.heap.size, rfl, by have := hD.1.size; omega, heap_alloc_new w' _⟩⟩
    go_simp
  obtain ⟨_, _, _, B3, rfl, _, _⟩ := hv15
  simp only [Act.put, List.setIfInBounds_toArray, List.set_cons_succ, List.set_cons_zero, Nat.reduceAdd]
  refine wM_nil ?_
  intro w9 hw9 hF9
  obtain ⟨-, h1, q1', e1, o1⟩ := hF9 9
  cases e1
  obtain ⟨-, h2, q2', e2, o2⟩ := hF9 13
  cases e2
  obtain ⟨-, B', e3, hB3, g3⟩ := hF9 15
  cases e3
  clear hF9 FX
  simp only [List.drop_succ_cons, List.drop_zero]
  have G3 := hid g3
  have GS := hid ((Below.block hw9 _ (by omega)).trans G0.out)
  have G29 := hid ((Below.block hw9 _ (by omega)).trans G2.out)
  have hx9 := hx0.trans hw9
  have sz9 : (w.heap.size + 2) ≤ w9.heap.size := by have := hw9.size; omega
  have O1 := hid o1
  have O2 := hid o2
  clear o1 o2 g3 G0 G2 hx0 sz0
  have r0 := block_cell (i := 0) G3.out
  have r1 := block_cell (i := 1) G3.out
  have r2 := block_cell (i := 2) G3.out
  have r3 := block_cell (i := 3) G3.out
  have r4 := block_cell (i := 4) G3.out
  simp only [List.getElem?_toArray, List.getElem?_cons_zero, List.getElem?_cons_succ] at r0 r1 r2 r3 r4
  have rf := fun i => blk_free (i := i) G3.out
  have p4 := block_cell (i := 4) GS.out
  simp only [List.getElem?_toArray, List.getElem?_cons_zero, List.getElem?_cons_succ] at p4
  have hne1 : ¬ w.heap.size = B3 := by omega
  have hne2 : ¬ B3 = w.heap.size := by omega
  go_upto_region 2 with fail
  have xs10 : BelS (fun k => k = B3) w9 (((((w9.setCell ⟨B3, 0, none⟩ (.int .i64 f.pl)).setCell ⟨B3, 1, none⟩ (.int .i64 f.mi)).setCell ⟨B3, 2, none⟩ (.slice (some ⟨g1, 0, none⟩) f.tr.length q1)).setCell ⟨B3, 3, none⟩ (.slice (some ⟨g2, 0, none⟩) f.bl.length q2)).setCell ⟨B3, 4, none⟩ (.slice none 0 0)) :=
    (((((BelS.refl _ w9).setCell (S := fun k => k = B3) ⟨B3, 0, none⟩ _ rfl).setCell ⟨B3, 1, none⟩ _ rfl).setCell ⟨B3, 2, none⟩ _ rfl).setCell ⟨B3, 3, none⟩ _ rfl).setCell ⟨B3, 4, none⟩ _ rfl
  have G10 : Hid ((((((w9.setCell ⟨B3, 0, none⟩ (.int .i64 f.pl)).setCell ⟨B3, 1, none⟩ (.int .i64 f.mi)).setCell ⟨B3, 2, none⟩ (.slice (some ⟨g1, 0, none⟩) f.tr.length q1)).setCell ⟨B3, 3, none⟩ (.slice (some ⟨g2, 0, none⟩) f.bl.length q2)).setCell ⟨B3, 4, none⟩ (.slice none 0 0)).heap[B3]? = some (.cells #[.int .i64 f.pl, .int .i64 f.mi, .slice (some ⟨g1, 0, none⟩) f.tr.length q1, .slice (some ⟨g2, 0, none⟩) f.bl.length q2, .slice none 0 0] 28 (0, 0))) := by
    have := blk_set (blk_set (blk_set (blk_set (blk_set G3.out (i := 0) (.int .i64 f.pl)) (i := 1) (.int .i64 f.mi)) (i := 2) (.slice (some ⟨g1, 0, none⟩) f.tr.length q1)) (i := 3) (.slice (some ⟨g2, 0, none⟩) f.bl.length q2)) (i := 4) (.slice none 0 0)
    unfold Hid; simpa using this
  have hx10 : Ext w (((((w9.setCell ⟨B3, 0, none⟩ (.int .i64 f.pl)).setCell ⟨B3, 1, none⟩ (.int .i64 f.mi)).setCell ⟨B3, 2, none⟩ (.slice (some ⟨g1, 0, none⟩) f.tr.length q1)).setCell ⟨B3, 3, none⟩ (.slice (some ⟨g2, 0, none⟩) f.bl.length q2)).setCell ⟨B3, 4, none⟩ (.slice none 0 0)) := ((((hx9.setCell (by show w.heap.size ≤ B3; omega) _).setCell (by show w.heap.size ≤ B3; omega) _).setCell (by show w.heap.size ≤ B3; omega) _).setCell (by show w.heap.size ≤ B3; omega) _).setCell (by show w.heap.size ≤ B3; omega) _
  generalize hW10 : (((((w9.setCell ⟨B3, 0, none⟩ (.int .i64 f.pl)).setCell ⟨B3, 1, none⟩ (.int .i64 f.mi)).setCell ⟨B3, 2, none⟩ (.slice (some ⟨g1, 0, none⟩) f.tr.length q1)).setCell ⟨B3, 3, none⟩ (.slice (some ⟨g2, 0, none⟩) f.bl.length q2)).setCell ⟨B3, 4, none⟩ (.slice none 0 0)) = W10 at xs10 G10 hx10 ⊢
  clear hW10
  have GS0 := hid (xs10.heap GS.out (by omega))
  have GZ0 := hid (xs10.heap G29.out (by omega))
  have O10 := hid (xs10.own O1.out (fun g hg e => by subst e; exact own_ne O1.out G3.out (by decide) hg))
  have O20 := hid (xs10.own O2.out (fun g hg e => by subst e; exact own_ne O2.out G3.out (by decide) hg))
  have sz10 : (w.heap.size + 2) ≤ W10.heap.size := Nat.le_trans sz9 xs10.size
  have p4 := block_cell (i := 4) GS0.out
  simp only [List.getElem?_toArray, List.getElem?_cons_zero, List.getElem?_cons_succ] at p4
  clear G3 GS G29 O1 O2 r0 r1 r2 r3 r4 rf xs10 hx9 sz9 hw9
  go_wp2
  clear p4
  go_loopw [24] (fun i wr => ∃ (k : Nat) (D : Option Addr) (kd : Nat) (xs : List Value), k ≤ f.ct.length ∧ i = .int .i64 (k : Int) ∧ Hid (wr.heap[B3]? = some (.cells #[.int .i64 f.pl, .int .i64 f.mi, .slice (some ⟨g1, 0, none⟩) f.tr.length q1, .slice (some ⟨g2, 0, none⟩) f.bl.length q2, .slice D k kd] 28 (0, 0))) ∧ Hid (wr.heap[w.heap.size]? = some (.cells #[.int .i64 f.pl, .int .i64 f.mi, .slice a1 f.tr.length c1, .slice a2 f.bl.length c2, .slice a3 f.ct.length c3] 28 (0, 0))) ∧ Hid (wr.heap[(w.heap.size + 1)]? = some (.cells #[.int .i64 0, .int .i64 0, .slice none 0 0, .slice none 0 0, .slice none 0 0] 28 (0, 0))) ∧
      Hid (wr.ownsRow (w.heap.size + 2) 68 2 (.slice (some ⟨g1, 0, none⟩) f.tr.length q1) f.tr.length (layPr.rows f.tr)) ∧ Hid (wr.ownsRow (w.heap.size + 2) 124 3 (.slice (some ⟨g2, 0, none⟩) f.bl.length q2) f.bl.length (layBl.rows f.bl)) ∧
      Hid (wr.ownsRow (w.heap.size + 2) 62 2 (.slice D k kd) k xs) ∧ Hid (OCt true wr (w.heap.size + 2) xs (f.ct.take k)) ∧ Ext w wr ∧ (w.heap.size + 2) ≤ wr.heap.size) (fun i _ => f.ct.length - (intOf i).toNat)
  case atStart => exact ⟨0, none, 0, [], Nat.zero_le _, rfl, G10, GS0, GZ0, O10, O20, own_nil _ _ _ _, trivial, hx10, sz10⟩
  case round =>
    obtain ⟨k, D, kd, xs, hk, rfl, G1, GS, GZ, O1, O2, OD, OX, hx, hsz⟩ := hrel
    by_cases hlt : k < f.ct.length
    · have hlt' : (k : Int) < (f.ct.length : Int) := by omega
      obtain ⟨x, hxk⟩ := get_of_lt f.ct k hlt
      obtain ⟨b, off, A5, k5, A6, k6, e1, g0, g1', hI, hR, -, -⟩ := (hC.ext hx).at_ hxk
      subst e1
      have hzx := Z4.out x (mem_of_get hxk)
      have HTK : Hid (f.ct.take k ++ [x] = f.ct.take (k + 1)) := (take_next hxk).symm
      clear hxk
      have p4 := block_cell (i := 4) G1.out
      simp only [List.getElem?_toArray, List.getElem?_cons_zero, List.getElem?_cons_succ] at p4
      obtain ⟨Wx, hWx⟩ : ∃ Wx, wr.alloc (.cells #[.slice A5 x.st.length k5, .slice A6 x.rp.length k6] 62) = Wx := ⟨_, rfl⟩
      have hxx : Ext wr Wx := by rw [← hWx]; exact Ext.alloc (Ext.refl _) _
      have FY : Hid (∀ w', Ext Wx w' → w'.cell? ⟨B3, 4, none⟩ = some (.slice D k kd) ∧ w'.cell? ⟨wr.heap.size, 0, none⟩ = some (.slice A5 x.st.length k5) ∧ w'.cell? ⟨wr.heap.size, 1, none⟩ = some (.slice A6 x.rp.length k6)) := fun w' h => ⟨h.cell (hxx.cell p4), h.cell (by rw [← hWx]; simp [go_sem]), h.cell (by rw [← hWx]; simp [go_sem])⟩
      have HI := hid (show Ints Wx A5 x.st ∧ Reps Wx A6 x.rp from ⟨hI.ext hxx, Rows.ext hR hxx⟩)
      have szx : (w.heap.size + 2) ≤ Wx.heap.size := by have := hxx.size; omega
      clear p4 hI hR
      go_upto_region 5 with fail
      try rw [hWx]
      clear hWx g0 g1'
      refine wp_region_shut_tail Ext (fun w' => Ext Wx w') (fun
        | 4 => some (fun v w' => ∃ A q, v = .slice A x.st.length q ∧ w'.ownsRow (w.heap.size + 2) 3 1 (.slice A x.st.length q) x.st.length (x.st.map (.int .i64)))
        | 7 => some (fun v w' => ∃ A q, v = .slice A x.rp.length q ∧ w'.ownsRow (w.heap.size + 2) 53 2 (.slice A x.rp.length q) x.rp.length (layRp.rows x.rp) ∧ q = x.rp.length)
        | 8 => some (fun v w' => ∃ a b, v = .agg #[a, b] ∧ OC true w' (w.heap.size + 2) a b x)
        | 9 => some (fun v w' => ∃ B a b, v = .slice (some ⟨B, 0, none⟩) 1 1 ∧ Rd w' (some ⟨B, 0, none⟩) [a, b] ∧ OC true w' (w.heap.size + 2) a b x)
        | _ => none) 10 (by kernel_rfl) (by kernel_rfl) (fun _ _ h k => h.trans k) ?hTb (Ext.drew (Ext.refl Wx)) ?_
      case hTb =>
        intro i R hR
        match i, hR with
        | 4, hR => cases hR; exact fun _ _ _ ⟨g, q, h1, h2⟩ k => ⟨g, q, h1, own_below h2 k⟩
        | 7, hR => cases hR; exact fun _ _ _ ⟨g, q, h1, h2, h3⟩ k => ⟨g, q, h1, own_below h2 k, h3⟩
        | 8, hR => cases hR; exact fun _ _ _ ⟨a, b, h1, h2⟩ k => ⟨a, b, h1, h2.ext k⟩
        | 9, hR => cases hR; exact fun _ _ _ ⟨B, a, b, h1, h2, h3⟩ k => ⟨B, a, b, h1, h2.ext k, h3.ext k⟩
      refine wM_val ?ub0 rfl rfl Ext.refl (fun w' hD => ?hb0) (fun phb0 => ?nb0)
      case hb0 =>
        obtain ⟨d0, d1, d2⟩ := FY.out w' hD.1
        go_simp; rfl
      simp only [Act.put, List.setIfInBounds_toArray, List.set_cons_succ, List.set_cons_zero, Nat.reduceAdd]
      refine wM_val ?ub1 rfl rfl Ext.refl (fun w' hD => ?hb1) (fun phb1 => ?nb1)
      case hb1 =>
        obtain ⟨d0, d1, d2⟩ := FY.out w' hD.1
        go_simp; rfl
      simp only [Act.put, List.setIfInBounds_toArray, List.set_cons_succ, List.set_cons_zero, Nat.reduceAdd]
      refine wM_val ?ub2 rfl rfl Ext.refl (fun w' hD => ?hb2) (fun phb2 => ?nb2)
      case hb2 =>
        obtain ⟨d0, d1, d2⟩ := FY.out w' hD.1
        go_simp; rfl
      simp only [Act.put, List.setIfInBounds_toArray, List.set_cons_succ, List.set_cons_zero, Nat.reduceAdd]
      refine wM_val ?ub3 rfl rfl Ext.refl (fun w' hD => ?hb3) (fun phb3 => ?nb3)
      case hb3 =>
        obtain ⟨d0, d1, d2⟩ := FY.out w' hD.1
        go_simp; rfl
      simp only [Act.put, List.setIfInBounds_toArray, List.set_cons_succ, List.set_cons_zero, Nat.reduceAdd]
      refine wM_op _ rfl rfl (opens_call ?fb4 ?gb4 (fun w' hD => ?hb4) (fun w' hD => ?cb4)) (fun v4 hv4 => ?nb4)
      case hb4 => go_simp; constructor <;> rfl
      case cb4 =>
        refine (dup_int A5 k5 x.st w' (HI.out.1.ext hD.1) (by omega)).mono ?_
        rintro e w2 ⟨g, q, rfl, ho, hb⟩
        exact ⟨_, rfl, hb, some ⟨g, 0, none⟩, q, rfl, own_base ho (by have := hD.1.size; omega)⟩
      obtain ⟨_, -, -, A8, q8, rfl, -⟩ := hv4
      simp only [Act.put, List.setIfInBounds_toArray, List.set_cons_succ, List.set_cons_zero, Nat.reduceAdd]
      refine wM_val ?ub5 rfl rfl Ext.refl (fun w' hD => ?hb5) (fun phb5 => ?nb5)
      case hb5 =>
        obtain ⟨d0, d1, d2⟩ := FY.out w' hD.1
        go_simp; rfl
      simp only [Act.put, List.setIfInBounds_toArray, List.set_cons_succ, List.set_cons_zero, Nat.reduceAdd]
      refine wM_val ?ub6 rfl rfl Ext.refl (fun w' hD => ?hb6) (fun phb6 => ?nb6)
      case hb6 =>
        obtain ⟨d0, d1, d2⟩ := FY.out w' hD.1
        go_simp; rfl
      simp only [Act.put, List.setIfInBounds_toArray, List.set_cons_succ, List.set_cons_zero, Nat.reduceAdd]
      refine wM_op _ rfl rfl (opens_call ?fb7 ?gb7 (fun w' hD => ?hb7) (fun w' hD => ?cb7)) (fun v7 hv7 => ?nb7)
      case hb7 => go_simp; constructor <;> rfl
      case cb7 =>
        refine (dup_full A6 k6 x.rp w' (Rows.ext HI.out.2 hD.1) (by omega)).mono ?_
        rintro e w2 ⟨g, rfl, ho, hb⟩
        exact ⟨_, rfl, hb, some ⟨g, 0, none⟩, _, rfl, own_base ho (by have := hD.1.size; omega), rfl⟩
      obtain ⟨_, -, -, A9, q9, rfl, -⟩ := hv7
      simp only [Act.put, List.setIfInBounds_toArray, List.set_cons_succ, List.set_cons_zero, Nat.reduceAdd]
      refine wM_op _ rfl rfl (opens_val (fun w' hD => ?hb8)) (fun v8 hv8 => ?nb8)
      case hb8 =>
        obtain ⟨_, A, q, e1, h1⟩ := hD.get 4 (by first | kernel_rfl | simp [Region.binds])
        obtain ⟨_, A', q', e2, h2, h3⟩ := hD.get 7 (by first | kernel_rfl | simp [Region.binds])
        refine ⟨.agg #[.slice A8 x.st.length q8, .slice A9 x.rp.length q9], w', ?_, Ext.refl _, ⟨_, _, rfl, ⟨A, q, e1, h1⟩, A', q', e2, h2, fun _ => h3⟩⟩
        go_simp
      obtain ⟨_, _, _, a8, b8, e8, ⟨Ax, qx, ea, -⟩, Ay, qy, eb, -⟩ := hv8
      subst ea
      subst eb
      subst e8
      simp only [Act.put, List.setIfInBounds_toArray, List.set_cons_succ, List.set_cons_zero, Nat.reduceAdd]
      refine wM_op _ rfl rfl (opens_val (fun w' hD => ?hb9)) (fun v9 hv9 => ?nb9)
      case hb9 =>
        obtain ⟨_, a, b, e1, h1⟩ := hD.get 8 (by first | kernel_rfl | simp [Region.binds])
        cases e1
        refine ⟨.slice (some ⟨w'.heap.size, 0, none⟩) 1 1, w'.alloc (.cells #[.slice Ax x.st.length qx, .slice Ay x.rp.length qy] 62), ?_, Ext.alloc (Ext.refl _) _, ⟨w'.heap.size, _, _, rfl, rd_new w' [.slice Ax x.st.length qx, .slice Ay x.rp.length qy] _ _ rfl, h1.ext (Ext.alloc (Ext.refl _) _)⟩⟩
        go_simp
      obtain ⟨_, _, _, B9, a9, b9, rfl, -⟩ := hv9
      simp only [Act.put, List.setIfInBounds_toArray, List.set_cons_succ, List.set_cons_zero, Nat.reduceAdd]
      refine wM_nil ?_
      intro w9 hw9 hF9
      obtain ⟨-, B', va, vb, e9, hrd, hoc⟩ := hF9 9
      cases e9
      clear hF9 FY
      have hx9 := hxx.trans hw9
      have HRD := hid hrd
      have HOC := hid hoc
      have G19 := hid ((Below.block hx9 _ (Array.getElem?_eq_some_iff.1 G1.out).1).trans G1.out)
      have GS9 := hid ((Below.block hx9 _ (Array.getElem?_eq_some_iff.1 GS.out).1).trans GS.out)
      have GZ9 := hid ((Below.block hx9 _ (Array.getElem?_eq_some_iff.1 GZ.out).1).trans GZ.out)
      have O19 := hid (own_below O1.out hx9)
      have O29 := hid (own_below O2.out hx9)
      have OD9 := hid (own_below OD.out hx9)
      have OX9 := hid (OX.out.ext hx9)
      have hxw9 := hid (hx.trans hx9)
      have sz9 : (w.heap.size + 2) ≤ w9.heap.size := by have := hx9.size; omega
      have hnb : (k + 1) * 48 ≤ 140737488355328 := by omega
      have HON : Hid (∀ u ∈ [va, vb], u.oneCell' = true) := by
        obtain ⟨⟨_, _, ea, _⟩, _, _, eb, _⟩ := HOC.out
        intro u hu
        simp at hu
        rcases hu with rfl | rfl
        · rw [ea]; rfl
        · rw [eb]; rfl
      clear hrd hoc OD O1 O2 OX G1 GS GZ hxx hw9 HI szx
      simp only [List.drop_succ_cons, List.drop_zero]
      refine wpList_append_rd2 _ rfl _ _ 26 rfl elem_cart (w.heap.size + 2) _ k xs rfl OD9.out (some ⟨B9, 0, none⟩) 1 1 [va, vb] rfl rfl HRD.out HON.out hnb sz9 ?_
      intro D6 k6 W6 own6 hbel6 hgr6 hloc6
      have hS6 : BelS (fun g => (Value.slice D k kd).ownBlock = some g) w9 W6 := (BelS.refl _ w9).grown hgr6 (fun g e => e)
      have hD6 : ∀ g, (Value.slice D k kd).ownBlock = some g → ∃ cs T, w9.heap[g]? = some (.cells cs T (0, 0)) ∧ T = 62 := fun g hg => by
        obtain ⟨cur, hc⟩ := own_blk OD9.out hg
        exact ⟨cur, _, hc, rfl⟩
      have hD7 : ∀ g, (Value.slice D k kd).ownBlock = some g → ∃ cs T, w9.heap[g]? = some (.cells cs T (0, 0)) ∧ T ≠ 3 ∧ T ≠ 53 := fun g hg => by
        obtain ⟨cs, T, hc, rfl⟩ := hD6 g hg
        exact ⟨cs, _, hc, by decide, by decide⟩
      have G16 := hid (hS6.heap G19.out (fun e => own_ne OD9.out G19.out (by decide) e))
      have GS6 := hid (hS6.heap GS9.out (fun e => own_ne OD9.out GS9.out (by decide) e))
      have GZ6 := hid (hS6.heap GZ9.out (fun e => own_ne OD9.out GZ9.out (by decide) e))
      have O16 := hid (hS6.own O19.out (fun g hg hs => by obtain ⟨cs, T, hh, rfl⟩ := hD6 g hs; exact own_ne O19.out hh (by decide) hg))
      have O26 := hid (hS6.own O29.out (fun g hg hs => by obtain ⟨cs, T, hh, rfl⟩ := hD6 g hs; exact own_ne O29.out hh (by decide) hg))
      have OX6 := hid (OCt.keep hS6 hD7 OX9.out)
      have OC6 := hid (OC.keep HOC.out hS6 hD7)
      have hxw6 : Ext w W6 := Ext.grown hxw9.out hgr6 (fun j e => by have := (OD9.out.lt j e).1; omega)
      have sz6 : (w.heap.size + 2) ≤ W6.heap.size := Nat.le_trans sz9 hS6.size
      have OD6 := hid own6
      have hcr : W6.cell? ⟨B3, 4, none⟩ = some (.slice D k kd) := by rw [block_cell G16.out]; rfl
      have hfr := blk_free (i := 4) G16.out
      clear own6 hloc6 hgr6 hbel6 hS6 hD6 hD7 G19 GS9 GZ9 O19 O29 OX9 HOC OD9 hxw9 sz9 HRD HON
      go_wp2
      have st : BelS (fun g => g = B3) W6 (W6.setCell ⟨B3, 4, none⟩ (.slice D6 (k + 1) k6)) := (BelS.refl _ W6).setCell _ _ rfl
      have G17 : Hid ((W6.setCell ⟨B3, 4, none⟩ (.slice D6 (k + 1) k6)).heap[B3]? = some (.cells #[.int .i64 f.pl, .int .i64 f.mi, .slice (some ⟨g1, 0, none⟩) f.tr.length q1, .slice (some ⟨g2, 0, none⟩) f.bl.length q2, .slice D6 (k + 1) k6] 28 (0, 0))) := by
        have := blk_set G16.out (i := 4) (.slice D6 (k + 1) k6)
        unfold Hid; simpa using this
      have GS7 := hid (st.heap GS6.out (by omega))
      have GZ7 := hid (st.heap GZ6.out (by omega))
      have O17 := hid (st.own O16.out (fun g hg e => by subst e; exact own_ne O16.out G16.out (by decide) hg))
      have O27 := hid (st.own O26.out (fun g hg e => by subst e; exact own_ne O26.out G16.out (by decide) hg))
      have OD7 := hid (st.own OD6.out (fun g hg e => by subst e; exact own_ne OD6.out G16.out (by decide) hg))
      have hSS : ∀ g, g = B3 → ∃ cs T, W6.heap[g]? = some (.cells cs T (0, 0)) ∧ T ≠ 3 ∧ T ≠ 53 := fun g hg => by subst hg; exact ⟨_, _, G16.out, by decide, by decide⟩
      have OX7 : Hid (OCt true (W6.setCell ⟨B3, 4, none⟩ (.slice D6 (k + 1) k6)) (w.heap.size + 2) (xs ++ [va, vb]) (f.ct.take (k + 1))) := by
        unfold Hid
        rw [← HTK.out]
        exact OCt.snoc (OC6.out.keep st hSS) (OCt.keep st hSS OX6.out)
      have hx7 : Ext w (W6.setCell ⟨B3, 4, none⟩ (.slice D6 (k + 1) k6)) := hxw6.setCell (by show w.heap.size ≤ B3; omega) _
      have sz7 : (w.heap.size + 2) ≤ (W6.setCell ⟨B3, 4, none⟩ (.slice D6 (k + 1) k6)).heap.size := by simp; omega
      clear st hSS G16 GS6 GZ6 O16 O26 OX6 OC6 OD6 hcr hfr
      go_roundw
      case rel => exact ⟨k + 1, D6, k6, xs ++ [va, vb], by omega, by go_num, G17, GS7, GZ7, O17, O27, OD7, OX7, hx7, sz7⟩
      case measure => simp [intOf]; omega
    · have hlt' : ¬ (k : Int) < (f.ct.length : Int) := by omega
      have hkl : k = f.ct.length := by omega
      subst hkl
      have hox := OX.out
      rw [List.take_of_length_le (Nat.le_refl _)] at hox
      have HOX := hid hox
      clear hox OX
      have p0 := block_cell (i := 0) G1.out
      have p1 := block_cell (i := 1) G1.out
      have p2 := block_cell (i := 2) G1.out
      have p3 := block_cell (i := 3) G1.out
      have p4 := block_cell (i := 4) G1.out
      simp only [List.getElem?_toArray, List.getElem?_cons_zero, List.getElem?_cons_succ] at p0 p1 p2 p3 p4
      have r0 := block_cell (i := 0) GZ.out
      have r1 := block_cell (i := 1) GZ.out
      have r2 := block_cell (i := 2) GZ.out
      have r3 := block_cell (i := 3) GZ.out
      have r4 := block_cell (i := 4) GZ.out
      simp only [List.getElem?_toArray, List.getElem?_cons_zero, List.getElem?_cons_succ] at r0 r1 r2 r3 r4
      have rf := fun i => blk_free (i := i) GZ.out
      go_wp2
      have xf : Ext w (((((wr.setCell ⟨w.heap.size + 1, 0, none⟩ (.int .i64 f.pl)).setCell ⟨w.heap.size + 1, 1, none⟩ (.int .i64 f.mi)).setCell ⟨w.heap.size + 1, 2, none⟩ (.slice (some ⟨g1, 0, none⟩) f.tr.length q1)).setCell ⟨w.heap.size + 1, 3, none⟩ (.slice (some ⟨g2, 0, none⟩) f.bl.length q2)).setCell ⟨w.heap.size + 1, 4, none⟩ (.slice D f.ct.length kd)) := (((((hx.setCell (by show w.heap.size ≤ w.heap.size + 1; omega) _).setCell (by show w.heap.size ≤ w.heap.size + 1; omega) _).setCell (by show w.heap.size ≤ w.heap.size + 1; omega) _).setCell (by show w.heap.size ≤ w.heap.size + 1; omega) _).setCell (by show w.heap.size ≤ w.heap.size + 1; omega) _)
      have xg : BelS (fun i => i = w.heap.size + 1) wr (((((wr.setCell ⟨w.heap.size + 1, 0, none⟩ (.int .i64 f.pl)).setCell ⟨w.heap.size + 1, 1, none⟩ (.int .i64 f.mi)).setCell ⟨w.heap.size + 1, 2, none⟩ (.slice (some ⟨g1, 0, none⟩) f.tr.length q1)).setCell ⟨w.heap.size + 1, 3, none⟩ (.slice (some ⟨g2, 0, none⟩) f.bl.length q2)).setCell ⟨w.heap.size + 1, 4, none⟩ (.slice D f.ct.length kd)) := ((((((BelS.refl _ wr).setCell (S := fun i => i = w.heap.size + 1) ⟨w.heap.size + 1, 0, none⟩ _ rfl).setCell (S := fun i => i = w.heap.size + 1) ⟨w.heap.size + 1, 1, none⟩ _ rfl).setCell (S := fun i => i = w.heap.size + 1) ⟨w.heap.size + 1, 2, none⟩ _ rfl).setCell (S := fun i => i = w.heap.size + 1) ⟨w.heap.size + 1, 3, none⟩ _ rfl).setCell (S := fun i => i = w.heap.size + 1) ⟨w.heap.size + 1, 4, none⟩ _ rfl)
      have hgs : ∀ g, g = w.heap.size + 1 → ∃ cs T, wr.heap[g]? = some (.cells cs T (0, 0)) ∧ T ≠ 3 ∧ T ≠ 53 := fun g hg => by subst hg; exact ⟨_, _, GZ.out, by decide, by decide⟩
      have h1 := xg.own O1.out (fun g hg e => by subst e; exact own_ne O1.out GZ.out (by decide) hg)
      have h2 := xg.own O2.out (fun g hg e => by subst e; exact own_ne O2.out GZ.out (by decide) hg)
      have h3 := xg.own OD.out (fun g hg e => by subst e; exact own_ne OD.out GZ.out (by decide) hg)
      have h4 := OCt.keep xg hgs HOX.out
      have hres : OwnFB (((((wr.setCell ⟨w.heap.size + 1, 0, none⟩ (.int .i64 f.pl)).setCell ⟨w.heap.size + 1, 1, none⟩ (.int .i64 f.mi)).setCell ⟨w.heap.size + 1, 2, none⟩ (.slice (some ⟨g1, 0, none⟩) f.tr.length q1)).setCell ⟨w.heap.size + 1, 3, none⟩ (.slice (some ⟨g2, 0, none⟩) f.bl.length q2)).setCell ⟨w.heap.size + 1, 4, none⟩ (.slice D f.ct.length kd)) (w.heap.size + 2) (fval f (some ⟨g1, 0, none⟩) q1 (some ⟨g2, 0, none⟩) q2 D kd) f := ⟨g1, q1, g2, q2, D, kd, xs, rfl, h1, h2, h3, h4⟩
      refine bodyPost_ret (v := fval f (some ⟨g1, 0, none⟩) q1 (some ⟨g2, 0, none⟩) q2 D kd) ?_ rfl ⟨_, _, rfl, xf, by omega, hres⟩
      simp [results, Tryz.results16, go_sem, fval, r0, r1, r2, r3, r4]
theorem own_any (v : Value) (f : Fg) (w : World) (hf : FgR w v f) (hs : f.sized) :
    Calls Tryz.prog 16 #[v] w (OwnPost w f) :=
  (own_at_ v f w hf hs).mono fun e w' ⟨v, B, he, hx, _, h⟩ => ⟨v, he, hx, B, h⟩
end Go.Proofs.YtpbpcplboikpcaaGreat

namespace Go.Proofs.YtpbpcplboikpcaaGreat
open Go Go.RowKit Go.Shelf
set_option linter.unusedVariables false
set_option linter.unusedSimpArgs false

theorem elem_rbl : ElemOK Tryz.prog 33 126 3 24 := by
  refine ⟨Tryz.underlying33, ?_, by decide, by decide⟩
  have h : ((Tryz.prog.info? 126).bind fun i => i.zero.map fun z => (i.size, i.bytes, z.cells.size)) = some (3, 24, 3) := by kernel_rfl
  cases hi : Tryz.prog.info? 126 with
  | none => rw [hi] at h; cases h
  | some i =>
    rw [hi] at h
    cases hz : i.zero with
    | none => simp [hz] at h
    | some z => simp [hz] at h; exact ⟨i, z, rfl, hz, h.1, h.2.1, h.2.2⟩
theorem elem_rrp : ElemOK Tryz.prog 127 130 2 16 := by
  refine ⟨Tryz.underlying127, ?_, by decide, by decide⟩
  have h : ((Tryz.prog.info? 130).bind fun i => i.zero.map fun z => (i.size, i.bytes, z.cells.size)) = some (2, 16, 2) := by kernel_rfl
  cases hi : Tryz.prog.info? 130 with
  | none => rw [hi] at h; cases h
  | some i =>
    rw [hi] at h
    cases hz : i.zero with
    | none => simp [hz] at h
    | some z => simp [hz] at h; exact ⟨i, z, rfl, hz, h.1, h.2.1, h.2.2⟩
theorem elem_rct : ElemOK Tryz.prog 34 129 2 48 := by
  refine ⟨Tryz.underlying34, ?_, by decide, by decide⟩
  have h : ((Tryz.prog.info? 129).bind fun i => i.zero.map fun z => (i.size, i.bytes, z.cells.size)) = some (2, 48, 2) := by kernel_rfl
  cases hi : Tryz.prog.info? 129 with
  | none => rw [hi] at h; cases h
  | some i =>
    rw [hi] at h
    cases hz : i.zero with
    | none => simp [hz] at h
    | some z => simp [hz] at h; exact ⟨i, z, rfl, hz, h.1, h.2.1, h.2.2⟩
/-- The two cells of a cart whose rows are the call's own. -/
def QC (w : World) (B : Nat) (a b : Value) (x : Ct) : Prop := (∃ A k, a = .slice A x.st.length k ∧ w.ownsRow B 3 1 (.slice A x.st.length k) x.st.length (x.st.map (.int .i64))) ∧ ∃ A k, b = .slice A x.rp.length k ∧ w.ownsRow B 130 2 (.slice A x.rp.length k) x.rp.length (layRp.rows x.rp)
theorem QC.ext {w w' : World} {B : Nat} {a b : Value} {x : Ct} (h : QC w B a b x) (hx : Ext w w') : QC w' B a b x := by
  obtain ⟨⟨A, k, e1, h1⟩, A', k', e2, h2⟩ := h
  exact ⟨⟨A, k, e1, own_below h1 hx⟩, A', k', e2, own_below h2 hx⟩
theorem QC.keep {S : Nat → Prop} {w w' : World} {B : Nat} {a b : Value} {x : Ct} (h : QC w B a b x) (hb : BelS S w w') (hS : ∀ g, S g → ∃ cs T, w.heap[g]? = some (.cells cs T (0, 0)) ∧ T ≠ 3 ∧ T ≠ 130) : QC w' B a b x := by
  obtain ⟨⟨A, k, e1, h1⟩, A', k', e2, h2⟩ := h
  exact ⟨⟨A, k, e1, hb.own h1 (fun g hg hs => by obtain ⟨cs, T, hh, hne, _⟩ := hS g hs; exact own_ne h1 hh hne hg)⟩, A', k', e2, hb.own h2 (fun g hg hs => by obtain ⟨cs, T, hh, _, hne⟩ := hS g hs; exact own_ne h2 hh hne hg)⟩
def QCt (w : World) (B : Nat) : List Value → List Ct → Prop
  | [], [] => True
  | a :: b :: xs, x :: l => QC w B a b x ∧ QCt w B xs l
  | _, _ => False
theorem QCt.keep {S : Nat → Prop} {w w' : World} {B : Nat} (hb : BelS S w w') (hS : ∀ g, S g → ∃ cs T, w.heap[g]? = some (.cells cs T (0, 0)) ∧ T ≠ 3 ∧ T ≠ 130) : ∀ {xs : List Value} {l : List Ct}, QCt w B xs l → QCt w' B xs l
  | [], [], _ => trivial
  | a :: b :: xs, x :: l, h => ⟨h.1.keep hb hS, QCt.keep hb hS h.2⟩
  | [_], _, h => by cases ‹List Ct› <;> exact h.elim
theorem QCt.ext {w w' : World} {B : Nat} (hx : Ext w w') : ∀ {xs : List Value} {l : List Ct}, QCt w B xs l → QCt w' B xs l
  | [], [], _ => trivial
  | a :: b :: xs, x :: l, h => ⟨h.1.ext hx, QCt.ext hx h.2⟩
  | [_], _, h => by cases ‹List Ct› <;> exact h.elim
theorem QCt.snoc {w : World} {B : Nat} {a b : Value} {x : Ct} (hc : QC w B a b x) : ∀ {xs : List Value} {l : List Ct}, QCt w B xs l → QCt w B (xs ++ [a, b]) (l ++ [x])
  | [], [], _ => ⟨hc, trivial⟩
  | _ :: _ :: xs, _ :: l, h => ⟨h.1, QCt.snoc hc h.2⟩
  | [_], _, h => by cases ‹List Ct› <;> exact h.elim
theorem QCt.toC {w : World} {B : Nat} : ∀ {xs : List Value} {l : List Ct}, QCt w B xs l → CtC w xs l
  | [], [], _ => trivial
  | a :: b :: xs, x :: l, h => by
    obtain ⟨⟨⟨A, k, e1, h1⟩, A', k', e2, h2⟩, h3⟩ := h
    exact ⟨⟨A, k, e1, Rd.of_own h1, own_cap h1⟩, ⟨A', k', e2, Rd.of_own h2, own_cap h2⟩, QCt.toC h3⟩
  | [_], _, h => by cases ‹List Ct› <;> exact h.elim
/-- A fog of the reference whose rows are the call's own. -/
def TheirsF (w : World) (v : Value) (f : Fg) (d : List (List Int)) : Prop := ∃ B s A k xs, v = rval s f (.slice A d.length k) ∧ w.ownsRow B 68 2 (.slice s.a1 f.tr.length s.c1) f.tr.length (layPr.rows f.tr) ∧ w.ownsRow B 126 3 (.slice s.a2 f.bl.length s.c2) f.bl.length (layBl.rows f.bl) ∧ w.ownsRow B 129 2 (.slice s.a3 f.ct.length s.c3) f.ct.length xs ∧ QCt w B xs f.ct ∧ DistR w A k d
theorem TheirsF.rg {w : World} {v : Value} {f : Fg} {d : List (List Int)} (h : TheirsF w v f d) : RgR w v f d := by
  obtain ⟨B, s, A, k, xs, rfl, h1, h2, h3, h4, h5⟩ := h
  exact ⟨s, A, k, rfl, ⟨Rd.of_own h1, Rd.of_own h2, ⟨xs, Rd.of_own h3, h4.toC⟩, own_cap h1, own_cap h2, own_cap h3⟩, h5.ints⟩
theorem TheirsF.ext {w w' : World} {v : Value} {f : Fg} {d : List (List Int)} (h : TheirsF w v f d) (hx : Ext w w') : TheirsF w' v f d := by
  obtain ⟨B, s, A, k, xs, rfl, h1, h2, h3, h4, h5⟩ := h
  exact ⟨B, s, A, k, xs, rfl, own_below h1 hx, own_below h2 hx, own_below h3 hx, h4.ext hx, h5.ext hx⟩
/-- Blocks of no type that the rows of a fog of the reference have. -/
def RefB (w : World) (S : Nat → Prop) : Prop := ∀ g, S g → ∃ cs T, w.heap[g]? = some (.cells cs T (0, 0)) ∧ T ≠ 68 ∧ T ≠ 126 ∧ T ≠ 129 ∧ T ≠ 3 ∧ T ≠ 130 ∧ T ≠ 42
theorem TheirsF.keep {S : Nat → Prop} {w w' : World} {v : Value} {f : Fg} {d : List (List Int)} (h : TheirsF w v f d) (hb : BelS S w w') (hS : RefB w S) : TheirsF w' v f d := by
  obtain ⟨B, s, A, k, xs, rfl, h1, h2, h3, h4, h5⟩ := h
  refine ⟨B, s, A, k, xs, rfl, hb.own h1 (fun g hg hs => ?_), hb.own h2 (fun g hg hs => ?_), hb.own h3 (fun g hg hs => ?_), QCt.keep hb (fun g hg => ?_) h4, h5.keep hb (fun g hg => ?_)⟩
  · obtain ⟨cs, T, hh, n1, n2, n3, n4, n5, n6⟩ := hS g hs; exact own_ne h1 hh n1 hg
  · obtain ⟨cs, T, hh, n1, n2, n3, n4, n5, n6⟩ := hS g hs; exact own_ne h2 hh n2 hg
  · obtain ⟨cs, T, hh, n1, n2, n3, n4, n5, n6⟩ := hS g hs; exact own_ne h3 hh n3 hg
  · obtain ⟨cs, T, hh, n1, n2, n3, n4, n5, n6⟩ := hS g hg; exact ⟨cs, T, hh, n4, n5⟩
  · obtain ⟨cs, T, hh, n1, n2, n3, n4, n5, n6⟩ := hS g hg; exact ⟨cs, T, hh, n4, n6⟩
def TheirsPost (w : World) (f : Fg) (e : Ending) (w' : World) : Prop := ∃ v d, e = .returned v ∧ Ext w w' ∧ TheirsF w' v f d ∧ (checkF f = 0 → d = distL f)
set_option maxRecDepth 100000 in
set_option maxHeartbeats 1000000 in
theorem theirs_any (v : Value) (f : Fg) (w : World) (hf : FgR w v f) (hs : f.sized) :
    Calls Tryz.prog 17 #[v] w (TheirsPost w f) := by
  obtain ⟨a1, c1, a2, c2, a3, c3, rfl, hT, hB, hC, -⟩ := hf
  have hz := hs
  obtain ⟨z1, z2, z3, z4⟩ := hz
  have Z4 := hid z4
  have HS := hid hs
  clear z4 hs
  obtain ⟨W0, hW0⟩ : ∃ W0, (w.alloc (.cells #[.int .i64 f.pl, .int .i64 f.mi, .slice a1 f.tr.length c1, .slice a2 f.bl.length c2, .slice a3 f.ct.length c3] 28)).alloc (.cells #[.int .i64 0, .int .i64 0, .slice none 0 0, .slice none 0 0, .slice none 0 0, .slice none 0 0] 37) = W0 := ⟨_, rfl⟩
  have hx0 : Ext w W0 := by rw [← hW0]; exact (Ext.alloc (Ext.refl w) _).alloc _
  have sz0 : W0.heap.size = w.heap.size + 2 := by rw [← hW0]; simp
  have G0 : Hid (W0.heap[w.heap.size]? = some (.cells #[.int .i64 f.pl, .int .i64 f.mi, .slice a1 f.tr.length c1, .slice a2 f.bl.length c2, .slice a3 f.ct.length c3] 28 (0, 0))) := by
    unfold Hid; rw [← hW0]
    exact (Below.block (Ext.alloc (Ext.refl _) _) _ (by simp)).trans (heap_alloc_new w _)
  have G2 : Hid (W0.heap[(w.heap.size + 1)]? = some (.cells #[.int .i64 0, .int .i64 0, .slice none 0 0, .slice none 0 0, .slice none 0 0, .slice none 0 0] 37 (0, 0))) := by
    unfold Hid; rw [← hW0]
    have := heap_alloc_new (w.alloc (.cells #[.int .i64 f.pl, .int .i64 f.mi, .slice a1 f.tr.length c1, .slice a2 f.bl.length c2, .slice a3 f.ct.length c3] 28)) (.cells #[.int .i64 0, .int .i64 0, .slice none 0 0, .slice none 0 0, .slice none 0 0, .slice none 0 0] 37)
    simpa using this
  unfold fval
  have p0 := block_cell (i := 0) G0.out
  have p1 := block_cell (i := 1) G0.out
  have p2 := block_cell (i := 2) G0.out
  have p3 := block_cell (i := 3) G0.out
  have p4 := block_cell (i := 4) G0.out
  simp only [List.getElem?_toArray, List.getElem?_cons_zero, List.getElem?_cons_succ] at p0 p1 p2 p3 p4
  have FX : Hid (∀ w', Ext W0 w' → w'.cell? ⟨w.heap.size, 0, none⟩ = some (.int .i64 f.pl) ∧ w'.cell? ⟨w.heap.size, 1, none⟩ = some (.int .i64 f.mi) ∧ w'.cell? ⟨w.heap.size, 2, none⟩ = some (.slice a1 f.tr.length c1)) := fun w' h => ⟨h.cell p0, h.cell p1, h.cell p2⟩
  clear p0 p1 p2 p3 p4
  go_enter Tryz.func17, Tryz.ntmps17
  go_wp2_with fail
  try rw [hW0]
  clear hW0
  refine wp_region_shut_tail Ext (fun w' => Ext W0 w') (fun
    | 9 => some (fun v w' => ∃ g q, v = .slice (some ⟨g, 0, none⟩) f.tr.length q ∧ w'.ownsRow (w.heap.size + 2) 68 2 (.slice (some ⟨g, 0, none⟩) f.tr.length q) f.tr.length (layPr.rows f.tr))
    | 12 => some (fun v w' => ∃ B, v = .pointer (some ⟨B, 0, none⟩) ∧ (w.heap.size + 2) ≤ B ∧ w'.heap[B]? = some (.cells #[.int .i64 0, .int .i64 0, .slice none 0 0, .slice none 0 0, .slice none 0 0, .slice none 0 0] 37 (0, 0)))
    | _ => none) 13 (by kernel_rfl) (by kernel_rfl) (fun _ _ h k => h.trans k) ?hT (Ext.drew (Ext.refl W0)) ?_
  case hT =>
    intro i R hR
    match i, hR with
    | 9, hR => cases hR; exact fun _ _ _ ⟨g, q, h1, h2⟩ k => ⟨g, q, h1, own_below h2 k⟩
    | 12, hR => cases hR; exact fun _ _ _ ⟨B, h1, h2, h3⟩ k => ⟨B, h1, h2, (Below.block k _ (Array.getElem?_eq_some_iff.1 h3).1).trans h3⟩
  refine wM_val ?ua0 rfl rfl Ext.refl (fun w' hD => ?ha0) (fun pha0 => ?na0)
  case ha0 =>
    obtain ⟨d0, d1, d2⟩ := FX.out w' hD.1
    go_simp; rfl
  simp only [Act.put, List.setIfInBounds_toArray, List.set_cons_succ, List.set_cons_zero, Nat.reduceAdd]
  refine wM_val ?ua1 rfl rfl Ext.refl (fun w' hD => ?ha1) (fun pha1 => ?na1)
  case ha1 =>
    obtain ⟨d0, d1, d2⟩ := FX.out w' hD.1
    go_simp; rfl
  simp only [Act.put, List.setIfInBounds_toArray, List.set_cons_succ, List.set_cons_zero, Nat.reduceAdd]
  refine wM_val ?ua2 rfl rfl Ext.refl (fun w' hD => ?ha2) (fun pha2 => ?na2)
  case ha2 =>
    obtain ⟨d0, d1, d2⟩ := FX.out w' hD.1
    go_simp; rfl
  simp only [Act.put, List.setIfInBounds_toArray, List.set_cons_succ, List.set_cons_zero, Nat.reduceAdd]
  refine wM_val ?ua3 rfl rfl Ext.refl (fun w' hD => ?ha3) (fun pha3 => ?na3)
  case ha3 =>
    obtain ⟨d0, d1, d2⟩ := FX.out w' hD.1
    go_simp; rfl
  simp only [Act.put, List.setIfInBounds_toArray, List.set_cons_succ, List.set_cons_zero, Nat.reduceAdd]
  refine wM_val ?ua4 rfl rfl Ext.refl (fun w' hD => ?ha4) (fun pha4 => ?na4)
  case ha4 =>
    obtain ⟨d0, d1, d2⟩ := FX.out w' hD.1
    go_simp; rfl
  simp only [Act.put, List.setIfInBounds_toArray, List.set_cons_succ, List.set_cons_zero, Nat.reduceAdd]
  refine wM_val ?ua5 rfl rfl Ext.refl (fun w' hD => ?ha5) (fun pha5 => ?na5)
  case ha5 =>
    obtain ⟨d0, d1, d2⟩ := FX.out w' hD.1
    go_simp; rfl
  simp only [Act.put, List.setIfInBounds_toArray, List.set_cons_succ, List.set_cons_zero, Nat.reduceAdd]
  refine wM_val ?ua6 rfl rfl Ext.refl (fun w' hD => ?ha6) (fun pha6 => ?na6)
  case ha6 =>
    obtain ⟨d0, d1, d2⟩ := FX.out w' hD.1
    go_simp; rfl
  simp only [Act.put, List.setIfInBounds_toArray, List.set_cons_succ, List.set_cons_zero, Nat.reduceAdd]
  refine wM_val ?ua7 rfl rfl Ext.refl (fun w' hD => ?ha7) (fun pha7 => ?na7)
  case ha7 =>
    obtain ⟨d0, d1, d2⟩ := FX.out w' hD.1
    go_simp; rfl
  simp only [Act.put, List.setIfInBounds_toArray, List.set_cons_succ, List.set_cons_zero, Nat.reduceAdd]
  refine wM_val ?ua8 rfl rfl Ext.refl (fun w' hD => ?ha8) (fun pha8 => ?na8)
  case ha8 =>
    obtain ⟨d0, d1, d2⟩ := FX.out w' hD.1
    go_simp; rfl
  simp only [Act.put, List.setIfInBounds_toArray, List.set_cons_succ, List.set_cons_zero, Nat.reduceAdd]
  refine wM_op _ rfl rfl (opens_call ?fa9 ?ga9 (fun w' hD => ?ha9) (fun w' hD => ?ca9)) (fun v9 hv9 => ?na9)
  case ha9 => go_simp; constructor <;> rfl
  case ca9 =>
    refine (dup_pair a1 c1 f.tr w' (Rows.ext hT (hx0.trans hD.1)) (by omega)).mono ?_
    rintro e w2 ⟨g, q, rfl, ho, hb⟩
    exact ⟨_, rfl, hb, g, q, rfl, own_base ho (by have := hD.1.size; omega)⟩
  obtain ⟨_, -, -, g1, q1, rfl, -⟩ := hv9
  simp only [Act.put, List.setIfInBounds_toArray, List.set_cons_succ, List.set_cons_zero, Nat.reduceAdd]
  refine wM_val ?ua10 rfl rfl Ext.refl (fun w' hD => ?ha10) (fun pha10 => ?na10)
  case ha10 =>
    obtain ⟨d0, d1, d2⟩ := FX.out w' hD.1
    go_simp; rfl
  simp only [Act.put, List.setIfInBounds_toArray, List.set_cons_succ, List.set_cons_zero, Nat.reduceAdd]
  refine wM_val ?ua11 rfl rfl Ext.refl (fun w' hD => ?ha11) (fun pha11 => ?na11)
  case ha11 =>
    obtain ⟨d0, d1, d2⟩ := FX.out w' hD.1
    go_simp; rfl
  simp only [Act.put, List.setIfInBounds_toArray, List.set_cons_succ, List.set_cons_zero, Nat.reduceAdd]
  refine wM_op _ rfl rfl (opens_val (fun w' hD => ?ha12)) (fun v12 hv12 => ?na12)
  case ha12 =>
    refine ⟨.pointer (some ⟨w'.heap.size, 0, none⟩), w'.alloc (.cells #[.int .i64 0, .int .i64 0, .slice none 0 0, .slice none 0 0, .slice none 0 0, .slice none 0 0] 37), ?_, Ext.alloc (Ext.refl _) _, ⟨w'.heap.size, rfl, by have := hD.1.size; omega, heap_alloc_new w' _⟩⟩
    go_simp
  obtain ⟨_, _, _, B3, rfl, _, _⟩ := hv12
  simp only [Act.put, List.setIfInBounds_toArray, List.set_cons_succ, List.set_cons_zero, Nat.reduceAdd]
  refine wM_nil ?_
  intro w9 hw9 hF9
  obtain ⟨-, h1, q1', e1, o1⟩ := hF9 9
  cases e1
  obtain ⟨-, B', e3, hB3, g3⟩ := hF9 12
  cases e3
  clear hF9 FX
  simp only [List.drop_succ_cons, List.drop_zero]
  have G3 := hid g3
  have GS := hid ((Below.block hw9 _ (by omega)).trans G0.out)
  have GZ := hid ((Below.block hw9 _ (by omega)).trans G2.out)
  have hx9 := hx0.trans hw9
  have sz9 : (w.heap.size + 2) ≤ w9.heap.size := by have := hw9.size; omega
  have O1 := hid o1
  clear o1 g3 G0 G2 hx0 sz0
  have r0 := block_cell (i := 0) G3.out
  have r1 := block_cell (i := 1) G3.out
  have r2 := block_cell (i := 2) G3.out
  have r3 := block_cell (i := 3) G3.out
  have r4 := block_cell (i := 4) G3.out
  have r5 := block_cell (i := 5) G3.out
  simp only [List.getElem?_toArray, List.getElem?_cons_zero, List.getElem?_cons_succ] at r0 r1 r2 r3 r4 r5
  have rf := fun i => blk_free (i := i) G3.out
  have hne1 : ¬ w.heap.size = B3 := by omega
  have hne2 : ¬ B3 = w.heap.size := by omega
  go_upto_region 2 with fail
  have xs10 : BelS (fun k => k = B3) w9 ((((((w9.setCell ⟨B3, 0, none⟩ (.int .i64 f.pl)).setCell ⟨B3, 1, none⟩ (.int .i64 f.mi)).setCell ⟨B3, 2, none⟩ (.slice (some ⟨g1, 0, none⟩) f.tr.length q1)).setCell ⟨B3, 3, none⟩ (.slice none 0 0)).setCell ⟨B3, 4, none⟩ (.slice none 0 0)).setCell ⟨B3, 5, none⟩ (.slice none 0 0)) :=
    ((((((BelS.refl _ w9).setCell (S := fun k => k = B3) ⟨B3, 0, none⟩ _ rfl).setCell ⟨B3, 1, none⟩ _ rfl).setCell ⟨B3, 2, none⟩ _ rfl).setCell ⟨B3, 3, none⟩ _ rfl).setCell ⟨B3, 4, none⟩ _ rfl).setCell ⟨B3, 5, none⟩ _ rfl
  have G10 : Hid (((((((w9.setCell ⟨B3, 0, none⟩ (.int .i64 f.pl)).setCell ⟨B3, 1, none⟩ (.int .i64 f.mi)).setCell ⟨B3, 2, none⟩ (.slice (some ⟨g1, 0, none⟩) f.tr.length q1)).setCell ⟨B3, 3, none⟩ (.slice none 0 0)).setCell ⟨B3, 4, none⟩ (.slice none 0 0)).setCell ⟨B3, 5, none⟩ (.slice none 0 0)).heap[B3]? = some (.cells #[.int .i64 f.pl, .int .i64 f.mi, .slice (some ⟨g1, 0, none⟩) f.tr.length q1, .slice none 0 0, .slice none 0 0, .slice none 0 0] 37 (0, 0))) := by
    have := blk_set (blk_set (blk_set (blk_set (blk_set (blk_set G3.out (i := 0) (.int .i64 f.pl)) (i := 1) (.int .i64 f.mi)) (i := 2) (.slice (some ⟨g1, 0, none⟩) f.tr.length q1)) (i := 3) (.slice none 0 0)) (i := 4) (.slice none 0 0)) (i := 5) (.slice none 0 0)
    unfold Hid; simpa using this
  have hx10 : Ext w ((((((w9.setCell ⟨B3, 0, none⟩ (.int .i64 f.pl)).setCell ⟨B3, 1, none⟩ (.int .i64 f.mi)).setCell ⟨B3, 2, none⟩ (.slice (some ⟨g1, 0, none⟩) f.tr.length q1)).setCell ⟨B3, 3, none⟩ (.slice none 0 0)).setCell ⟨B3, 4, none⟩ (.slice none 0 0)).setCell ⟨B3, 5, none⟩ (.slice none 0 0)) := (((((hx9.setCell (by show w.heap.size ≤ B3; omega) _).setCell (by show w.heap.size ≤ B3; omega) _).setCell (by show w.heap.size ≤ B3; omega) _).setCell (by show w.heap.size ≤ B3; omega) _).setCell (by show w.heap.size ≤ B3; omega) _).setCell (by show w.heap.size ≤ B3; omega) _
  generalize hW10 : ((((((w9.setCell ⟨B3, 0, none⟩ (.int .i64 f.pl)).setCell ⟨B3, 1, none⟩ (.int .i64 f.mi)).setCell ⟨B3, 2, none⟩ (.slice (some ⟨g1, 0, none⟩) f.tr.length q1)).setCell ⟨B3, 3, none⟩ (.slice none 0 0)).setCell ⟨B3, 4, none⟩ (.slice none 0 0)).setCell ⟨B3, 5, none⟩ (.slice none 0 0)) = W10 at xs10 G10 hx10 ⊢
  clear hW10
  have GS0 := hid (xs10.heap GS.out (by omega))
  have GZ0 := hid (xs10.heap GZ.out (by omega))
  have O10 := hid (xs10.own O1.out (fun g hg e => by subst e; exact own_ne O1.out G3.out (by decide) hg))
  have sz10 : (w.heap.size + 2) ≤ W10.heap.size := Nat.le_trans sz9 xs10.size
  have p3 := block_cell (i := 3) GS0.out
  simp only [List.getElem?_toArray, List.getElem?_cons_zero, List.getElem?_cons_succ] at p3
  clear G3 GS GZ O1 r0 r1 r2 r3 r4 r5 rf xs10 hx9 sz9 hw9
  go_wp2
  clear p3
  go_loopw [26] (fun i wr => ∃ (k : Nat) (D : Option Addr) (kd : Nat), k ≤ f.bl.length ∧ i = .int .i64 (k : Int) ∧ Hid (wr.heap[B3]? = some (.cells #[.int .i64 f.pl, .int .i64 f.mi, .slice (some ⟨g1, 0, none⟩) f.tr.length q1, .slice D k kd, .slice none 0 0, .slice none 0 0] 37 (0, 0))) ∧ Hid (wr.heap[w.heap.size]? = some (.cells #[.int .i64 f.pl, .int .i64 f.mi, .slice a1 f.tr.length c1, .slice a2 f.bl.length c2, .slice a3 f.ct.length c3] 28 (0, 0))) ∧ Hid (wr.heap[(w.heap.size + 1)]? = some (.cells #[.int .i64 0, .int .i64 0, .slice none 0 0, .slice none 0 0, .slice none 0 0, .slice none 0 0] 37 (0, 0))) ∧
      Hid (wr.ownsRow (w.heap.size + 2) 68 2 (.slice (some ⟨g1, 0, none⟩) f.tr.length q1) f.tr.length (layPr.rows f.tr)) ∧ Hid (wr.ownsRow (w.heap.size + 2) 126 3 (.slice D k kd) k (layBl.rows (f.bl.take k))) ∧ Ext w wr ∧ (w.heap.size + 2) ≤ wr.heap.size) (fun i _ => f.bl.length - (intOf i).toNat)
  case atStart => exact ⟨0, none, 0, Nat.zero_le _, rfl, G10, GS0, GZ0, O10, own_nil _ _ _ _, hx10, sz10⟩
  case round =>
    obtain ⟨k, D, kd, hk, rfl, G1, GS, GZ, O1, OD, hx, hsz⟩ := hrel
    by_cases hlt : k < f.bl.length
    · have hlt' : (k : Int) < (f.bl.length : Int) := by omega
      obtain ⟨x, hxk⟩ := get_of_lt f.bl k hlt
      obtain ⟨b, off, e1, g0, g1', g2'⟩ := Blasts.at_ (Rows.ext hB hx) hxk
      subst e1
      have HTK : Hid (layBl.rows (f.bl.take k) ++ layBl.rows [x] = layBl.rows (f.bl.take (k + 1))) := by unfold Hid; rw [take_next hxk, Lay.rows_app]
      clear hxk
      have p3 := block_cell (i := 3) G1.out
      simp only [List.getElem?_toArray, List.getElem?_cons_zero, List.getElem?_cons_succ] at p3
      obtain ⟨W5, hW5⟩ : ∃ W5, (wr.alloc (.cells #[.int .i64 x.mi, .int .i64 x.pl, .int .i64 x.lo] 124)).alloc (.cells #[.int .i64 x.mi, .int .i64 x.pl, .int .i64 x.lo] 126) = W5 := ⟨_, rfl⟩
      have hx5 : Ext wr W5 := by rw [← hW5]; exact (Ext.alloc (Ext.refl _) _).alloc _
      have HRD : Hid (Rd W5 (some ⟨wr.heap.size + 1, 0, none⟩) (layBl.rows [x])) := by
        unfold Hid; rw [← hW5]
        exact rd_new (wr.alloc (.cells #[.int .i64 x.mi, .int .i64 x.pl, .int .i64 x.lo] 124)) [.int .i64 x.mi, .int .i64 x.pl, .int .i64 x.lo] _ _ (by simp)
      have p3a := fun o => (Ext.alloc (Ext.refl wr) o).cell p3
      have hnb : (k + 1) * 24 ≤ 140737488355328 := by omega
      have OD5 := hid (own_below OD.out hx5)
      have sz5 : (w.heap.size + 2) ≤ W5.heap.size := by have := hx5.size; omega
      go_wp2_with (at_builtin; (try rw [hW5]); refine wpList_append_rd2 _ rfl _ _ 33 rfl elem_rbl (w.heap.size + 2) _ k (layBl.rows (f.bl.take k)) rfl OD5.out (some ⟨wr.heap.size + 1, 0, none⟩) 1 1 (layBl.rows [x]) rfl rfl HRD.out (layBl.rows_one _) hnb sz5 ?_)
      intro D6 k6 W6 own6 hbel6 hgr6 hloc6
      rw [HTK.out] at own6
      have hS6 : BelS (fun g => (Value.slice D k kd).ownBlock = some g) W5 W6 := (BelS.refl _ W5).grown hgr6 (fun g e => e)
      have hD6 : ∀ g, (Value.slice D k kd).ownBlock = some g → ∃ cs T, W5.heap[g]? = some (.cells cs T (0, 0)) ∧ T = 126 := fun g hg => by
        obtain ⟨cur, hc⟩ := own_blk OD5.out hg
        exact ⟨cur, _, hc, rfl⟩
      have G15 := (Below.block hx5 _ (Array.getElem?_eq_some_iff.1 G1.out).1).trans G1.out
      have GS5 := (Below.block hx5 _ (Array.getElem?_eq_some_iff.1 GS.out).1).trans GS.out
      have GZ5 := (Below.block hx5 _ (Array.getElem?_eq_some_iff.1 GZ.out).1).trans GZ.out
      have O15 := own_below O1.out hx5
      have G16 := hid (hS6.heap G15 (fun e => own_ne OD5.out G15 (by decide) e))
      have GS6 := hid (hS6.heap GS5 (fun e => own_ne OD5.out GS5 (by decide) e))
      have GZ6 := hid (hS6.heap GZ5 (fun e => own_ne OD5.out GZ5 (by decide) e))
      have O16 := hid (hS6.own O15 (fun g hg hs => by obtain ⟨cs, T, hh, rfl⟩ := hD6 g hs; exact own_ne O15 hh (by decide) hg))
      have hxw6 : Ext w W6 := Ext.grown (hx.trans hx5) hgr6 (fun j e => by have := (OD5.out.lt j e).1; omega)
      have sz6 : (w.heap.size + 2) ≤ W6.heap.size := Nat.le_trans sz5 hS6.size
      have OD6 := hid own6
      have hcr : W6.cell? ⟨B3, 3, none⟩ = some (.slice D k kd) := by rw [block_cell G16.out]; rfl
      have hfr := blk_free (i := 3) G16.out
      clear own6 hloc6 hgr6 hbel6 hS6 hD6 G15 GS5 GZ5 O15 OD5 OD O1 G1 GS GZ p3 p3a g0 g1' g2' hx5 sz5 HRD hW5
      go_wp2
      have st : BelS (fun g => g = B3) W6 (W6.setCell ⟨B3, 3, none⟩ (.slice D6 (k + 1) k6)) := (BelS.refl _ W6).setCell _ _ rfl
      have G17 : Hid ((W6.setCell ⟨B3, 3, none⟩ (.slice D6 (k + 1) k6)).heap[B3]? = some (.cells #[.int .i64 f.pl, .int .i64 f.mi, .slice (some ⟨g1, 0, none⟩) f.tr.length q1, .slice D6 (k + 1) k6, .slice none 0 0, .slice none 0 0] 37 (0, 0))) := by
        have := blk_set G16.out (i := 3) (.slice D6 (k + 1) k6)
        unfold Hid; simpa using this
      have GS7 := hid (st.heap GS6.out (by omega))
      have GZ7 := hid (st.heap GZ6.out (by omega))
      have O17 := hid (st.own O16.out (fun g hg e => by subst e; exact own_ne O16.out G16.out (by decide) hg))
      have OD7 := hid (st.own OD6.out (fun g hg e => by subst e; exact own_ne OD6.out G16.out (by decide) hg))
      have hx7 : Ext w (W6.setCell ⟨B3, 3, none⟩ (.slice D6 (k + 1) k6)) := hxw6.setCell (by show w.heap.size ≤ B3; omega) _
      have sz7 : (w.heap.size + 2) ≤ (W6.setCell ⟨B3, 3, none⟩ (.slice D6 (k + 1) k6)).heap.size := by simp; omega
      clear st G16 GS6 GZ6 O16 OD6 hcr hfr
      go_roundw
      case rel => exact ⟨k + 1, D6, k6, by omega, by go_num, G17, GS7, GZ7, O17, OD7, hx7, sz7⟩
      case measure => simp [intOf]; omega
    · have hlt' : ¬ (k : Int) < (f.bl.length : Int) := by omega
      have hkl : k = f.bl.length := by omega
      subst hkl
      rw [List.take_of_length_le (Nat.le_refl _)] at OD
      have O2 := OD
      clear OD
      obtain ⟨W1, hW1⟩ : ∃ V : World, V = wr := ⟨_, rfl⟩
      subst hW1
      have p4 := block_cell (i := 4) GS.out
      simp only [List.getElem?_toArray, List.getElem?_cons_zero, List.getElem?_cons_succ] at p4
      go_wp2
      clear p4
      go_loopw [40] (fun i wr => ∃ (k : Nat) (D3 : Option Addr) (k3 : Nat) (xs : List Value), k ≤ f.ct.length ∧ i = .int .i64 (k : Int) ∧ Hid (wr.heap[B3]? = some (.cells #[.int .i64 f.pl, .int .i64 f.mi, .slice (some ⟨g1, 0, none⟩) f.tr.length q1, .slice D f.bl.length kd, .slice D3 k k3, .slice none 0 0] 37 (0, 0))) ∧ Hid (wr.heap[w.heap.size]? = some (.cells #[.int .i64 f.pl, .int .i64 f.mi, .slice a1 f.tr.length c1, .slice a2 f.bl.length c2, .slice a3 f.ct.length c3] 28 (0, 0))) ∧ Hid (wr.heap[(w.heap.size + 1)]? = some (.cells #[.int .i64 0, .int .i64 0, .slice none 0 0, .slice none 0 0, .slice none 0 0, .slice none 0 0] 37 (0, 0))) ∧
          Hid (wr.ownsRow (w.heap.size + 2) 68 2 (.slice (some ⟨g1, 0, none⟩) f.tr.length q1) f.tr.length (layPr.rows f.tr)) ∧ Hid (wr.ownsRow (w.heap.size + 2) 126 3 (.slice D f.bl.length kd) f.bl.length (layBl.rows f.bl)) ∧
          Hid (wr.ownsRow (w.heap.size + 2) 129 2 (.slice D3 k k3) k xs) ∧ Hid (QCt wr (w.heap.size + 2) xs (f.ct.take k)) ∧ Ext w wr ∧ (w.heap.size + 2) ≤ wr.heap.size) (fun i _ => f.ct.length - (intOf i).toNat)
      case atStart => exact ⟨0, none, 0, [], Nat.zero_le _, rfl, G1, GS, GZ, O1, O2, own_nil _ _ _ _, trivial, hx, hsz⟩
      case round =>
        obtain ⟨k, D3, k3, xs, hk, rfl, G1, GS, GZ, O1, O2, OD, OX, hx, hsz⟩ := hrel
        by_cases hlt : k < f.ct.length
        · have hlt' : (k : Int) < (f.ct.length : Int) := by omega
          obtain ⟨x, hxk⟩ := get_of_lt f.ct k hlt
          obtain ⟨b, off, A5, k5, A6, k6, e1, g0, g1', hI, hR, -, -⟩ := (hC.ext hx).at_ hxk
          subst e1
          have hzx := Z4.out x (mem_of_get hxk)
          have HTK : Hid (f.ct.take k ++ [x] = f.ct.take (k + 1)) := (take_next hxk).symm
          clear hxk
          obtain ⟨V0, hV0⟩ : ∃ V : World, V = wr := ⟨_, rfl⟩
          subst hV0
          obtain ⟨Wx, hWx⟩ : ∃ Wx, V0.alloc (.cells #[.slice A5 x.st.length k5, .slice A6 x.rp.length k6] 62) = Wx := ⟨_, rfl⟩
          have hxx : Ext V0 Wx := by rw [← hWx]; exact Ext.alloc (Ext.refl _) _
          have FY : Hid (∀ w', Ext Wx w' → w'.cell? ⟨V0.heap.size, 0, none⟩ = some (.slice A5 x.st.length k5) ∧ w'.cell? ⟨V0.heap.size, 1, none⟩ = some (.slice A6 x.rp.length k6)) := fun w' h => ⟨h.cell (by rw [← hWx]; simp [go_sem]), h.cell (by rw [← hWx]; simp [go_sem])⟩
          have HI := hid (show Ints Wx A5 x.st ∧ Reps Wx A6 x.rp from ⟨hI.ext hxx, Rows.ext hR hxx⟩)
          have HRV := hid hR
          have szx : V0.heap.size + 1 ≤ Wx.heap.size := by rw [← hWx]; simp
          clear hI hR
          obtain ⟨dx0, dx1⟩ := FY.out Wx (Ext.refl _)
          go_wp2_with fail
          try rw [hWx]
          clear hWx g0 g1' dx0 dx1
          refine (dup_int A5 k5 x.st Wx HI.out.1 (by omega)).mono ?_
          rintro e w2 ⟨g8, q8, rfl, o8, hb8⟩
          obtain ⟨d0, d1⟩ := FY.out w2 hb8
          have d1a := fun o => (Ext.alloc (Ext.refl w2) o).cell d1
          go_wp2
          obtain ⟨B8, hB8⟩ : ∃ B8, w2.heap.size = B8 := ⟨_, rfl⟩
          obtain ⟨W8, hW8⟩ : ∃ W8, w2.alloc (.cells #[.slice (some ⟨g8, 0, none⟩) x.st.length q8, .slice none 0 0] 129) = W8 := ⟨_, rfl⟩
          have hx28 : Ext w2 W8 := by rw [← hW8]; exact Ext.alloc (Ext.refl _) _
          have hx8 : Ext V0 W8 := hxx.trans (hb8.trans hx28)
          have hb0 : V0.heap.size ≤ B8 := by rw [← hB8]; exact (hxx.trans hb8).size
          have G8 : Hid (W8.heap[B8]? = some (.cells #[.slice (some ⟨g8, 0, none⟩) x.st.length q8, .slice none 0 0] 129 (0, 0))) := by
            unfold Hid; rw [← hW8, ← hB8]; exact heap_alloc_new w2 _
          have O8 := hid (own_base (base' := V0.heap.size) (own_below o8 hx28) hxx.size)
          have d1b := hx28.cell d1
          clear o8 hb8 hx28 d0 hxx HI FY szx
          go_wp2_with fail
          try rw [hW8]
          try rw [hB8]
          clear hW8 d1 d1a d1b hB8
          go_loopw [51] (fun i wr => ∃ (m : Nat) (DR : Option Addr) (km : Nat), m ≤ x.rp.length ∧ i = .int .i64 (m : Int) ∧ Hid (wr.heap[B8]? = some (.cells #[.slice (some ⟨g8, 0, none⟩) x.st.length q8, .slice DR m km] 129 (0, 0))) ∧
              Hid (wr.ownsRow V0.heap.size 3 1 (.slice (some ⟨g8, 0, none⟩) x.st.length q8) x.st.length (x.st.map (.int .i64))) ∧ Hid (wr.ownsRow V0.heap.size 130 2 (.slice DR m km) m (layRp.rows (x.rp.take m))) ∧ Ext V0 wr) (fun i _ => x.rp.length - (intOf i).toNat)
          case atStart => exact ⟨0, none, 0, Nat.zero_le _, rfl, G8, O8, own_nil _ _ _ _, hx8⟩
          case round =>
            obtain ⟨m, DR, km, hm, rfl, GB, OI, ODR, hxv⟩ := hrel
            by_cases hlm : m < x.rp.length
            · have hlm' : (m : Int) < (x.rp.length : Int) := by omega
              obtain ⟨y, hym⟩ := get_of_lt x.rp m hlm
              obtain ⟨b5, o5, e5, h0, h1⟩ := Reps.at_ (Rows.ext HRV.out hxv) hym
              subst e5
              have HTY : Hid (layRp.rows (x.rp.take m) ++ layRp.rows [y] = layRp.rows (x.rp.take (m + 1))) := by unfold Hid; rw [take_next hym, Lay.rows_app]
              clear hym
              have p1 := block_cell (i := 1) GB.out
              simp only [List.getElem?_toArray, List.getElem?_cons_zero, List.getElem?_cons_succ] at p1
              obtain ⟨W5, hW5⟩ : ∃ W5, (wr.alloc (.cells #[.int .i64 y.bl, .bool y.hd] 53)).alloc (.cells #[.int .i64 y.bl, .bool y.hd] 130) = W5 := ⟨_, rfl⟩
              have hx5 : Ext wr W5 := by rw [← hW5]; exact (Ext.alloc (Ext.refl _) _).alloc _
              have HRD : Hid (Rd W5 (some ⟨wr.heap.size + 1, 0, none⟩) (layRp.rows [y])) := by
                unfold Hid; rw [← hW5]
                exact rd_new (wr.alloc (.cells #[.int .i64 y.bl, .bool y.hd] 53)) [.int .i64 y.bl, .bool y.hd] _ _ (by simp)
              have p1a := fun o => (Ext.alloc (Ext.refl wr) o).cell p1
              have hnb : (m + 1) * 16 ≤ 140737488355328 := by have := hzx.2; omega
              have OD5 := hid (own_below ODR.out hx5)
              have sz5 : V0.heap.size ≤ W5.heap.size := (hxv.trans hx5).size
              go_wp2_with (at_builtin; (try rw [hW5]); refine wpList_append_rd2 _ rfl _ _ 127 rfl elem_rrp V0.heap.size _ m (layRp.rows (x.rp.take m)) rfl OD5.out (some ⟨wr.heap.size + 1, 0, none⟩) 1 1 (layRp.rows [y]) rfl rfl HRD.out (layRp.rows_one _) hnb sz5 ?_)
              intro D6 k7 W6 own6 hbel6 hgr6 hloc6
              rw [HTY.out] at own6
              have hS6 : BelS (fun g => (Value.slice DR m km).ownBlock = some g) W5 W6 := (BelS.refl _ W5).grown hgr6 (fun g e => e)
              have G15 := (Below.block hx5 _ (Array.getElem?_eq_some_iff.1 GB.out).1).trans GB.out
              have O15 := own_below OI.out hx5
              have G16 := hid (hS6.heap G15 (fun e => own_ne OD5.out G15 (by decide) e))
              have O16 := hid (hS6.own O15 (fun g hg hs => by obtain ⟨cur, hh⟩ := own_blk OD5.out hs; exact own_ne O15 hh (by decide) hg))
              have hxw6 : Ext V0 W6 := Ext.grown (hxv.trans hx5) hgr6 (fun j e => (OD5.out.lt j e).1)
              have OD6 := hid own6
              have hcr : W6.cell? ⟨B8, 1, none⟩ = some (.slice DR m km) := by rw [block_cell G16.out]; rfl
              have hfr := blk_free (i := 1) G16.out
              clear own6 hloc6 hgr6 hbel6 hS6 G15 O15 OD5 ODR OI GB p1 p1a h0 h1 hx5 sz5 HRD hW5
              go_wp2
              have st : BelS (fun g => g = B8) W6 (W6.setCell ⟨B8, 1, none⟩ (.slice D6 (m + 1) k7)) := (BelS.refl _ W6).setCell _ _ rfl
              have G17 : Hid ((W6.setCell ⟨B8, 1, none⟩ (.slice D6 (m + 1) k7)).heap[B8]? = some (.cells #[.slice (some ⟨g8, 0, none⟩) x.st.length q8, .slice D6 (m + 1) k7] 129 (0, 0))) := by
                have := blk_set G16.out (i := 1) (.slice D6 (m + 1) k7)
                unfold Hid; simpa using this
              have O17 := hid (st.own O16.out (fun g hg e => by subst e; exact own_ne O16.out G16.out (by decide) hg))
              have OD7 := hid (st.own OD6.out (fun g hg e => by subst e; exact own_ne OD6.out G16.out (by decide) hg))
              have hx7 : Ext V0 (W6.setCell ⟨B8, 1, none⟩ (.slice D6 (m + 1) k7)) := hxw6.setCell (by show V0.heap.size ≤ B8; omega) _
              clear st G16 O16 OD6 hcr hfr
              go_roundw
              case rel => exact ⟨m + 1, D6, k7, by omega, by go_num, G17, O17, OD7, hx7⟩
              case measure => simp [intOf]; omega
            · have hlm' : ¬ (m : Int) < (x.rp.length : Int) := by omega
              have hml : m = x.rp.length := by omega
              subst hml
              have hod := ODR.out
              rw [List.take_of_length_le (Nat.le_refl _)] at hod
              have HOC : Hid (QC wr (w.heap.size + 2) (.slice (some ⟨g8, 0, none⟩) x.st.length q8) (.slice DR x.rp.length km) x) :=
                ⟨⟨_, _, rfl, own_base OI.out hsz⟩, _, _, rfl, own_base hod hsz⟩
              clear hod ODR OI
              obtain ⟨V1, hV1⟩ : ∃ V : World, V = wr := ⟨_, rfl⟩
              subst hV1
              have p0 := block_cell (i := 0) GB.out
              have p1 := block_cell (i := 1) GB.out
              simp only [List.getElem?_toArray, List.getElem?_cons_zero, List.getElem?_cons_succ] at p0 p1
              have G1v := hid ((Below.block hxv _ (Array.getElem?_eq_some_iff.1 G1.out).1).trans G1.out)
              have p4 := block_cell (i := 4) G1v.out
              simp only [List.getElem?_toArray, List.getElem?_cons_zero, List.getElem?_cons_succ] at p4
              obtain ⟨W9, hW9⟩ : ∃ W9, V1.alloc (.cells #[.slice (some ⟨g8, 0, none⟩) x.st.length q8, .slice DR x.rp.length km] 129) = W9 := ⟨_, rfl⟩
              have hx19 : Ext V1 W9 := by rw [← hW9]; exact Ext.alloc (Ext.refl _) _
              have hx9 := hxv.trans hx19
              have HRD : Hid (Rd W9 (some ⟨V1.heap.size, 0, none⟩) [.slice (some ⟨g8, 0, none⟩) x.st.length q8, .slice DR x.rp.length km]) := by
                unfold Hid; rw [← hW9]
                exact rd_new V1 [.slice (some ⟨g8, 0, none⟩) x.st.length q8, .slice DR x.rp.length km] _ _ rfl
              have G19 := hid ((Below.block hx9 _ (Array.getElem?_eq_some_iff.1 G1.out).1).trans G1.out)
              have GS9 := hid ((Below.block hx9 _ (Array.getElem?_eq_some_iff.1 GS.out).1).trans GS.out)
              have GZ9 := hid ((Below.block hx9 _ (Array.getElem?_eq_some_iff.1 GZ.out).1).trans GZ.out)
              have O19 := hid (own_below O1.out hx9)
              have O29 := hid (own_below O2.out hx9)
              have OD9 := hid (own_below OD.out hx9)
              have OX9 := hid (OX.out.ext hx9)
              have OC9 := hid (HOC.out.ext hx19)
              have hxw9 := hid (hx.trans hx9)
              have sz9 : (w.heap.size + 2) ≤ W9.heap.size := by have := hx9.size; omega
              have hnb : (k + 1) * 48 ≤ 140737488355328 := by omega
              have HON : Hid (∀ u ∈ [Value.slice (some ⟨g8, 0, none⟩) x.st.length q8, .slice DR x.rp.length km], u.oneCell' = true) := by
                intro u hu
                simp at hu
                rcases hu with rfl | rfl <;> rfl
              clear OD O1 O2 OX G1 GS GZ HOC GB G1v hx19 hx9
              go_wp2_with (at_builtin; (try rw [hW9]); refine wpList_append_rd2 _ rfl _ _ 34 rfl elem_rct (w.heap.size + 2) _ k xs rfl OD9.out (some ⟨V1.heap.size, 0, none⟩) 1 1 [.slice (some ⟨g8, 0, none⟩) x.st.length q8, .slice DR x.rp.length km] rfl rfl HRD.out HON.out hnb sz9 ?_)
              intro D6 k7 W6 own6 hbel6 hgr6 hloc6
              have hS6 : BelS (fun g => (Value.slice D3 k k3).ownBlock = some g) W9 W6 := (BelS.refl _ W9).grown hgr6 (fun g e => e)
              have hD6 : ∀ g, (Value.slice D3 k k3).ownBlock = some g → ∃ cs T, W9.heap[g]? = some (.cells cs T (0, 0)) ∧ T = 129 := fun g hg => by
                obtain ⟨cur, hc⟩ := own_blk OD9.out hg
                exact ⟨cur, _, hc, rfl⟩
              have hD7 : ∀ g, (Value.slice D3 k k3).ownBlock = some g → ∃ cs T, W9.heap[g]? = some (.cells cs T (0, 0)) ∧ T ≠ 3 ∧ T ≠ 130 := fun g hg => by
                obtain ⟨cs, T, hc, rfl⟩ := hD6 g hg
                exact ⟨cs, _, hc, by decide, by decide⟩
              have G16 := hid (hS6.heap G19.out (fun e => own_ne OD9.out G19.out (by decide) e))
              have GS6 := hid (hS6.heap GS9.out (fun e => own_ne OD9.out GS9.out (by decide) e))
              have GZ6 := hid (hS6.heap GZ9.out (fun e => own_ne OD9.out GZ9.out (by decide) e))
              have O16 := hid (hS6.own O19.out (fun g hg hs => by obtain ⟨cs, T, hh, rfl⟩ := hD6 g hs; exact own_ne O19.out hh (by decide) hg))
              have O26 := hid (hS6.own O29.out (fun g hg hs => by obtain ⟨cs, T, hh, rfl⟩ := hD6 g hs; exact own_ne O29.out hh (by decide) hg))
              have OX6 := hid (QCt.keep hS6 hD7 OX9.out)
              have OC6 := hid (QC.keep OC9.out hS6 hD7)
              have hxw6 : Ext w W6 := Ext.grown hxw9.out hgr6 (fun j e => by have := (OD9.out.lt j e).1; omega)
              have sz6 : (w.heap.size + 2) ≤ W6.heap.size := Nat.le_trans sz9 hS6.size
              have OD6 := hid own6
              have hcr : W6.cell? ⟨B3, 4, none⟩ = some (.slice D3 k k3) := by rw [block_cell G16.out]; rfl
              have hfr := blk_free (i := 4) G16.out
              clear own6 hloc6 hgr6 hbel6 hS6 hD6 hD7 G19 GS9 GZ9 O19 O29 OX9 OC9 OD9 hxw9 sz9 HRD HON p0 p1 p4 hW9
              go_wp2
              have st : BelS (fun g => g = B3) W6 (W6.setCell ⟨B3, 4, none⟩ (.slice D6 (k + 1) k7)) := (BelS.refl _ W6).setCell _ _ rfl
              have G17 : Hid ((W6.setCell ⟨B3, 4, none⟩ (.slice D6 (k + 1) k7)).heap[B3]? = some (.cells #[.int .i64 f.pl, .int .i64 f.mi, .slice (some ⟨g1, 0, none⟩) f.tr.length q1, .slice D f.bl.length kd, .slice D6 (k + 1) k7, .slice none 0 0] 37 (0, 0))) := by
                have := blk_set G16.out (i := 4) (.slice D6 (k + 1) k7)
                unfold Hid; simpa using this
              have GS7 := hid (st.heap GS6.out (by omega))
              have GZ7 := hid (st.heap GZ6.out (by omega))
              have O17 := hid (st.own O16.out (fun g hg e => by subst e; exact own_ne O16.out G16.out (by decide) hg))
              have O27 := hid (st.own O26.out (fun g hg e => by subst e; exact own_ne O26.out G16.out (by decide) hg))
              have OD7 := hid (st.own OD6.out (fun g hg e => by subst e; exact own_ne OD6.out G16.out (by decide) hg))
              have hSS : ∀ g, g = B3 → ∃ cs T, W6.heap[g]? = some (.cells cs T (0, 0)) ∧ T ≠ 3 ∧ T ≠ 130 := fun g hg => by subst hg; exact ⟨_, _, G16.out, by decide, by decide⟩
              have OX7 : Hid (QCt (W6.setCell ⟨B3, 4, none⟩ (.slice D6 (k + 1) k7)) (w.heap.size + 2) (xs ++ [.slice (some ⟨g8, 0, none⟩) x.st.length q8, .slice DR x.rp.length km]) (f.ct.take (k + 1))) := by
                unfold Hid
                rw [← HTK.out]
                exact QCt.snoc (OC6.out.keep st hSS) (QCt.keep st hSS OX6.out)
              have hx7 : Ext w (W6.setCell ⟨B3, 4, none⟩ (.slice D6 (k + 1) k7)) := hxw6.setCell (by show w.heap.size ≤ B3; omega) _
              have sz7 : (w.heap.size + 2) ≤ (W6.setCell ⟨B3, 4, none⟩ (.slice D6 (k + 1) k7)).heap.size := by simp; omega
              clear st hSS G16 GS6 GZ6 O16 O26 OX6 OC6 OD6 hcr hfr
              go_roundw
              case rel => exact ⟨k + 1, D6, k7, _, by omega, by go_num, G17, GS7, GZ7, O17, O27, OD7, OX7, hx7, sz7⟩
              case measure => simp [intOf]; omega
        · have hlt' : ¬ (k : Int) < (f.ct.length : Int) := by omega
          have hkl : k = f.ct.length := by omega
          subst hkl
          have hox := OX.out
          rw [List.take_of_length_le (Nat.le_refl _)] at hox
          have HOX := hid hox
          clear hox OX
          obtain ⟨V9, hV9⟩ : ∃ V : World, V = wr := ⟨_, rfl⟩
          subst hV9
          have HF : Hid (FRows V9 ⟨some ⟨g1, 0, none⟩, q1, D, kd, D3, k3⟩ f) := ⟨Rd.of_own O1.out, Rd.of_own O2.out, ⟨xs, Rd.of_own OD.out, HOX.out.toC⟩, own_cap O1.out, own_cap O2.out, own_cap OD.out⟩
          have p0 := block_cell (i := 0) G1.out
          have p1 := block_cell (i := 1) G1.out
          have p2 := block_cell (i := 2) G1.out
          have p3 := block_cell (i := 3) G1.out
          have p4 := block_cell (i := 4) G1.out
          have p5 := block_cell (i := 5) G1.out
          simp only [List.getElem?_toArray, List.getElem?_cons_zero, List.getElem?_cons_succ] at p0 p1 p2 p3 p4 p5
          go_wp2_with fail
          clear p0 p1 p2 p3 p4 p5
          refine (reflaid_any ⟨some ⟨g1, 0, none⟩, q1, D, kd, D3, k3⟩ none 0 f [] V9 HF.out (DistR.nil _).ints HS.out).mono ?_
          rintro e w5 ⟨A, kk, L, rfl, hb5, hor⟩
          have HDR : Hid (DistR w5 A kk L ∧ (checkF f = 0 → L = distL f)) := by
            rcases hor with ⟨h1, h2, h3, h4⟩ | ⟨h1, h2, h3⟩
            · subst h2; subst h3; subst h4
              exact ⟨DistR.nil _, fun h => absurd h h1⟩
            · exact ⟨h3, fun _ => h2⟩
          have GZ5 := hid ((Below.block hb5 _ (Array.getElem?_eq_some_iff.1 GZ.out).1).trans GZ.out)
          have OO1 := hid (own_below O1.out hb5)
          have OO2 := hid (own_below O2.out hb5)
          have OOD := hid (own_below OD.out hb5)
          have OOX := hid (HOX.out.ext hb5)
          clear hor O1 O2 OD HOX GZ GS G1 HF
          have r0 := block_cell (i := 0) GZ5.out
          have r1 := block_cell (i := 1) GZ5.out
          have r2 := block_cell (i := 2) GZ5.out
          have r3 := block_cell (i := 3) GZ5.out
          have r4 := block_cell (i := 4) GZ5.out
          have r5 := block_cell (i := 5) GZ5.out
          simp only [List.getElem?_toArray, List.getElem?_cons_zero, List.getElem?_cons_succ] at r0 r1 r2 r3 r4 r5
          have rf := fun i => blk_free (i := i) GZ5.out
          unfold rval
          go_wp2
          have xf : Ext w ((((((w5.setCell ⟨w.heap.size + 1, 0, none⟩ (.int .i64 f.pl)).setCell ⟨w.heap.size + 1, 1, none⟩ (.int .i64 f.mi)).setCell ⟨w.heap.size + 1, 2, none⟩ (.slice (some ⟨g1, 0, none⟩) f.tr.length q1)).setCell ⟨w.heap.size + 1, 3, none⟩ (.slice D f.bl.length kd)).setCell ⟨w.heap.size + 1, 4, none⟩ (.slice D3 f.ct.length k3)).setCell ⟨w.heap.size + 1, 5, none⟩ (.slice A L.length kk)) := (((((((hx.trans hb5).setCell (by show w.heap.size ≤ w.heap.size + 1; omega) _).setCell (by show w.heap.size ≤ w.heap.size + 1; omega) _).setCell (by show w.heap.size ≤ w.heap.size + 1; omega) _).setCell (by show w.heap.size ≤ w.heap.size + 1; omega) _).setCell (by show w.heap.size ≤ w.heap.size + 1; omega) _).setCell (by show w.heap.size ≤ w.heap.size + 1; omega) _)
          have xg : BelS (fun i => i = w.heap.size + 1) w5 ((((((w5.setCell ⟨w.heap.size + 1, 0, none⟩ (.int .i64 f.pl)).setCell ⟨w.heap.size + 1, 1, none⟩ (.int .i64 f.mi)).setCell ⟨w.heap.size + 1, 2, none⟩ (.slice (some ⟨g1, 0, none⟩) f.tr.length q1)).setCell ⟨w.heap.size + 1, 3, none⟩ (.slice D f.bl.length kd)).setCell ⟨w.heap.size + 1, 4, none⟩ (.slice D3 f.ct.length k3)).setCell ⟨w.heap.size + 1, 5, none⟩ (.slice A L.length kk)) := (((((((BelS.refl _ w5).setCell (S := fun i => i = w.heap.size + 1) ⟨w.heap.size + 1, 0, none⟩ _ rfl).setCell (S := fun i => i = w.heap.size + 1) ⟨w.heap.size + 1, 1, none⟩ _ rfl).setCell (S := fun i => i = w.heap.size + 1) ⟨w.heap.size + 1, 2, none⟩ _ rfl).setCell (S := fun i => i = w.heap.size + 1) ⟨w.heap.size + 1, 3, none⟩ _ rfl).setCell (S := fun i => i = w.heap.size + 1) ⟨w.heap.size + 1, 4, none⟩ _ rfl).setCell (S := fun i => i = w.heap.size + 1) ⟨w.heap.size + 1, 5, none⟩ _ rfl)
          have hgs : ∀ g, g = w.heap.size + 1 → ∃ cs T, w5.heap[g]? = some (.cells cs T (0, 0)) ∧ T ≠ 3 ∧ T ≠ 130 := fun g hg => by subst hg; exact ⟨_, _, GZ5.out, by decide, by decide⟩
          have hgt : ∀ g, g = w.heap.size + 1 → ∃ cs T, w5.heap[g]? = some (.cells cs T (0, 0)) ∧ T ≠ 3 ∧ T ≠ 42 := fun g hg => by subst hg; exact ⟨_, _, GZ5.out, by decide, by decide⟩
          have h1 := xg.own OO1.out (fun g hg e => by subst e; exact own_ne OO1.out GZ5.out (by decide) hg)
          have h2 := xg.own OO2.out (fun g hg e => by subst e; exact own_ne OO2.out GZ5.out (by decide) hg)
          have h3 := xg.own OOD.out (fun g hg e => by subst e; exact own_ne OOD.out GZ5.out (by decide) hg)
          have h4 := QCt.keep xg hgs OOX.out
          have h5 := HDR.out.1.keep xg hgt
          have hres : TheirsF ((((((w5.setCell ⟨w.heap.size + 1, 0, none⟩ (.int .i64 f.pl)).setCell ⟨w.heap.size + 1, 1, none⟩ (.int .i64 f.mi)).setCell ⟨w.heap.size + 1, 2, none⟩ (.slice (some ⟨g1, 0, none⟩) f.tr.length q1)).setCell ⟨w.heap.size + 1, 3, none⟩ (.slice D f.bl.length kd)).setCell ⟨w.heap.size + 1, 4, none⟩ (.slice D3 f.ct.length k3)).setCell ⟨w.heap.size + 1, 5, none⟩ (.slice A L.length kk)) (rval ⟨some ⟨g1, 0, none⟩, q1, D, kd, D3, k3⟩ f (.slice A L.length kk)) f L := ⟨_, ⟨some ⟨g1, 0, none⟩, q1, D, kd, D3, k3⟩, A, kk, xs, rfl, h1, h2, h3, h4, h5⟩
          refine bodyPost_ret (v := (rval ⟨some ⟨g1, 0, none⟩, q1, D, kd, D3, k3⟩ f (.slice A L.length kk))) ?_ rfl ⟨_, L, rfl, xf, hres, HDR.out.2⟩
          simp [results, Tryz.results17, go_sem, rval, r0, r1, r2, r3, r4, r5]
end Go.Proofs.YtpbpcplboikpcaaGreat
