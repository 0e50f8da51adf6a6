/- The walk of Made. Printed by my gen_made.py. -/
import Derived.Test.YtgnjhaomlbkgcaaWMade1
import Derived.Test.YtgnjhaomlbkgcaaWClone
import Derived.Test.YtgnjhaomlbkgcaaApp2
import Derived.Test.YtgnjhaomlbkgcaaSt2
import Derived.Laws.ResultCell
import Derived.Deep.DeepCutAuto
namespace Go.Proofs.Ytgnjhaomlbkgcaa
open Go Go.RowKit Go.Shelf
set_option linter.unusedVariables false
set_option linter.unusedSimpArgs false

theorem rd_block {w : World} {B : Nat} {xs : List Value} {T : TypeId} {fr : Nat × Nat} (h : w.heap[B]? = some (.cells xs.toArray T fr)) : Rd w (some ⟨B, 0, none⟩) xs := by
  refine .inr ⟨B, 0, rfl, fun j u hu => ?_⟩
  rw [Nat.zero_add, cell_of_row w B j _ _ _ h]
  simpa using hu
theorem deal_up (D : Nat) (w : World) : Up (Deal D) (fun w' => Bel D w w' ∧ HeapR w' D) := fun _ _ h k => ⟨h.1.trans k.1, k.2 h.2⟩
theorem block_cell {w : World} {B i : Nat} {cs : Array Value} {T : TypeId} {fr : Nat × Nat} (h : w.heap[B]? = some (.cells cs T fr)) : w.cell? ⟨B, i, none⟩ = cs[i]? := by rw [cell_of_row w B i _ _ _ h]
theorem block_free {w : World} {B i : Nat} {cs : Array Value} {T : TypeId} (h : w.heap[B]? = some (.cells cs T (0, 0))) : w.frozen? ⟨B, i, none⟩ = false := by simp [World.frozen?, h]

def lowM (wrg : Nat) : Int := if wrg = 0 then 0 else -40
def MadePost (D : Nat) (evm bm cm wrg : Nat) (w : World) (e : Ending) (w' : World) : Prop :=
  ∃ v c real A c3, e = .returned (.tuple #[v, .slice A real.length c3]) ∧ CsR w' v c ∧ Ints w' A real ∧ MadeOK evm bm cm (lowM wrg) c real ∧ Bel D w w' ∧ HeapR w' D
set_option maxRecDepth 100000 in
set_option maxHeartbeats 8000000 in
theorem made_any (D : Nat) (evm bm cm wrg : Nat) (w : World) (h : HeapR w D) (e2 : 2 ≤ evm) (e8 : evm ≤ 8) (b20 : bm ≤ 20) (c1 : 1 ≤ cm) (c8 : cm ≤ 8) (w100 : wrg ≤ 100) :
    Calls Try.prog 14 #[.pointer (some ⟨D, 0, none⟩), .int .i64 evm, .int .i64 bm, .int .i64 cm, .int .i64 wrg] w (MadePost D evm bm cm wrg w) := by
  have hDlt := h.lt
  have c1' : (0 : Int) < (cm : Int) := by omega
  go_enter Try.func14, Try.ntmps14
  go_wp2_with fail
  have x0 := Ext.alloc (Ext.alloc (Ext.refl w) (.cells #[.pointer (some ⟨D, 0, none⟩)] 30)) (.cells #[.int .i64 0, .slice none 0 0, .int .i64 0, .slice none 0 0] 26)
  have G1 : ((w.alloc (.cells #[.pointer (some ⟨D, 0, none⟩)] 30)).alloc (.cells #[.int .i64 0, .slice none 0 0, .int .i64 0, .slice none 0 0] 26)).heap[w.heap.size]? = some (.cells #[.pointer (some ⟨D, 0, none⟩)] 30 (0, 0)) :=
    (Below.block (Ext.alloc (Ext.refl _) _) _ (by simp)).trans (heap_alloc_new w _)
  have G2 : ((w.alloc (.cells #[.pointer (some ⟨D, 0, none⟩)] 30)).alloc (.cells #[.int .i64 0, .slice none 0 0, .int .i64 0, .slice none 0 0] 26)).heap[w.heap.size + 1]? = some (.cells #[.int .i64 0, .slice none 0 0, .int .i64 0, .slice none 0 0] 26 (0, 0)) := by
    have := heap_alloc_new (w.alloc (.cells #[.pointer (some ⟨D, 0, none⟩)] 30)) (.cells #[.int .i64 0, .slice none 0 0, .int .i64 0, .slice none 0 0] 26)
    simpa using this
  refine (from_any D 2 evm _ (h.ext x0) (by omega) (by omega) (by omega) (by omega)).mono ?_
  rintro e w1 ⟨ev, rfl, ev1, ev2, hb1, hh1⟩
  have hev : ev ≤ evm := by omega
  have hev8 : ev ≤ 8 := by omega
  have y1 := (x0.bel (D := D)).trans hb1
  have g1 := hb1.heap G1 (by omega)
  have g2 := hb1.heap G2 (by omega)
  have s1 : w.heap.size + 2 ≤ w1.heap.size := by have := hb1.size; simpa using this
  have G1 := hid g1
  have G2 := hid g2
  have p1 := block_cell (i := 0) g1
  simp only [List.getElem?_toArray, List.getElem?_cons_zero] at p1
  have q1 := fun o => (Ext.alloc (Ext.refl w1) o).cell p1
  clear g1 g2 hb1 x0 ev2
  go_wp2_with fail
  refine (from_any D 1 6 _ (hh1.ext (Ext.alloc (Ext.refl w1) _)) (by omega) (by omega) (by omega) (by omega)).mono ?_
  rintro e w2 ⟨wi, rfl, wi1, wi2, hb2, hh2⟩
  have hwi6 : wi ≤ 6 := by omega
  have x1 := Ext.alloc (Ext.refl w1) (.cells #[.int .i64 ev, .slice none 0 0, .int .i64 0, .slice none 0 0] 26)
  have y2 := y1.trans ((x1.bel (D := D)).trans hb2)
  have g1 := (x1.bel (D := D) |>.trans hb2).heap G1.out (by omega)
  have g2 := (x1.bel (D := D) |>.trans hb2).heap G2.out (by omega)
  have g3 := hb2.heap (heap_alloc_new w1 (.cells #[.int .i64 ev, .slice none 0 0, .int .i64 0, .slice none 0 0] 26)) (by omega)
  have s2 : w1.heap.size + 1 ≤ w2.heap.size := by have := hb2.size; simpa using this
  have G1 := hid g1
  have G2 := hid g2
  have G3 := hid g3
  have p3 := fun i => block_cell (i := i) g3
  have p30 := p3 0
  have p31 := p3 1
  have p32 := p3 2
  have p33 := p3 3
  simp only [List.getElem?_toArray, List.getElem?_cons_zero, List.getElem?_cons_succ] at p30 p31 p32 p33
  have f3 := fun i => block_free (i := i) g3
  clear g1 g2 g3 hb2 x1 y1 hh1 q1 p1 wi2 p3
  have qA := fun o o' => (Ext.alloc (Ext.alloc (Ext.refl (w2.setCell ⟨w1.heap.size, 2, none⟩ (.int .i64 wi))) o) o').cell (p := ⟨w1.heap.size, 0, none⟩) (u := .int .i64 ev) (by rw [setCell_ne _ _ _ _ (by simp)]; exact p30)
  go_wp2
  obtain ⟨W3, hW3⟩ : ∃ W3, ((w2.setCell ⟨w1.heap.size, 2, none⟩ (.int .i64 wi)).alloc (.cells #[.int .i64 0] 3)).alloc (.cells #[.slice (some ⟨w2.heap.size, 0, none⟩) 1 1] 27) = W3 := ⟨_, rfl⟩
  rw [hW3]
  have x3 : BelS (fun k => k = w1.heap.size) w2 W3 := by
    rw [← hW3]; exact ((BelS.setCell (S := fun k => k = w1.heap.size) (BelS.refl _ w2) ⟨w1.heap.size, 2, none⟩ _ rfl).alloc _).alloc _
  have s3 : W3.heap.size = w2.heap.size + 2 := by rw [← hW3]; simp
  have hh3 : HeapR W3 D := hh2.belS x3 (fun k hk => by omega)
  have G1 := hid (x3.heap G1.out (by omega))
  have G2 := hid (x3.heap G2.out (by omega))
  have G3 : Hid (W3.heap[w1.heap.size]? = some (.cells #[.int .i64 ev, .slice none 0 0, .int .i64 wi, .slice none 0 0] 26 (0, 0))) := by
    unfold Hid
    rw [← hW3]
    exact (Below.block (Ext.alloc (Ext.alloc (Ext.refl _) _) _) _ (by simp; omega)).trans (heap_set G3.out _)
  have G4 : Hid (W3.heap[w2.heap.size + 1]? = some (.cells #[.slice (some ⟨w2.heap.size, 0, none⟩) 1 1] 27 (0, 0))) := by
    unfold Hid
    rw [← hW3]
    have := heap_alloc_new ((w2.setCell ⟨w1.heap.size, 2, none⟩ (.int .i64 wi)).alloc (.cells #[.int .i64 0] 3)) (.cells #[.slice (some ⟨w2.heap.size, 0, none⟩) 1 1] 27)
    simpa using this
  have O3 : Hid (W3.ownsRow w2.heap.size 3 1 (.slice (some ⟨w2.heap.size, 0, none⟩) 1 1) 1 ([(0 : Int)].map (.int .i64))) := by
    unfold Hid
    rw [← hW3]
    refine own_below ?_ (Ext.alloc (Ext.refl _) _)
    have := World.ownsRow_lit (w2.setCell ⟨w1.heap.size, 2, none⟩ (.int .i64 wi)) #[.int .i64 0] (e := 3) (size := 1) (base := w2.heap.size) 1 (by simp) (by simp [maxLen]) rfl
    simpa using this
  have y3 := y2.then_ x3 (fun k hk e => by omega)
  generalize hBh : w.heap.size = Bh at *
  generalize hBc : w1.heap.size = Bc at *
  generalize hR0 : w2.heap.size = R0 at *
  have HBh := hid hBh
  clear hBh hBc hR0 hW3 x3 y2 hh2 p30 p31 p32 p33 f3 qA
  have hwrc : IntKind.i64.wrap (ev - 1) = ev - 1 := IntWalk.i64_in _ ⟨by omega, by omega⟩
  go_loopw [30] (fun i wr => ∃ (k : Nat) (rl : List Int) (A : Option Addr) (c3 : Nat), i = .int .i64 (k : Int) ∧ (k : Int) ≤ ev - 1 ∧ Hid (rl.length = k + 1) ∧ rl.length ≤ 8 ∧ Hid ((∀ x ∈ rl, -40 ≤ x ∧ x ≤ 90) ∧ rl.getD 0 0 = 0) ∧ Hid (wr.heap[R0 + 1]? = some (.cells #[.slice A rl.length c3] 27 (0, 0))) ∧
      Hid (wr.ownsRow R0 3 1 (.slice A rl.length c3) rl.length (rl.map (.int .i64))) ∧ (∀ a, A = some a → a.block ≠ R0 + 1) ∧ HeapR wr D ∧ BelS (fun k => k = D ∨ R0 ≤ k) W3 wr) (fun i _ => (ev - intOf i).toNat)
  case atStart => exact ⟨0, [0], some ⟨R0, 0, none⟩, 1, rfl, by omega, rfl, by simp, ⟨by simp, rfl⟩, G4, O3, fun a e => by cases e; show R0 ≠ R0 + 1; omega, hh3, BelS.refl _ _⟩
  case round =>
    obtain ⟨k, rl, A, c3, rfl, hk, HLEN, hl8, HRL, G4, O3, hA, hh, hbs⟩ := hrel
    by_cases hlt : (k : Int) < ev - 1
    · have hbb := hbs.heap G1.out (by omega)
      have p1 := block_cell (i := 0) hbb
      have p4 := block_cell (i := 0) G4.out
      have f4 := fun i => block_free (i := i) G4.out
      simp only [List.getElem?_toArray, List.getElem?_cons_zero] at p1 p4
      clear hbb
      go_wp2
      have FX0 : ∀ w', (Bel D wr w' ∧ HeapR w' D) → w'.cell? ⟨R0 + 1, 0, none⟩ = some (.slice A rl.length c3) ∧ w'.cell? ⟨Bh, 0, none⟩ = some (.pointer (some ⟨D, 0, none⟩)) :=
        fun w' hw => ⟨hw.1.cell p4 (by show R0 + 1 ≠ D; omega), hw.1.cell p1 (by show Bh ≠ D; omega)⟩
      have FX := hid FX0
      clear FX0 p1
      refine wp_region_opens_tail (Deal D) (fun w' => Bel D wr w' ∧ HeapR w' D) (fun | 2 => some (fun v _ => ∃ x : Int, v = .int .i64 x ∧ -40 ≤ x ∧ x ≤ 90) | 3 => some (fun v w' => ∃ g x, v = .slice (some ⟨g, 0, none⟩) 1 1 ∧ D < g ∧ w'.cell? ⟨g, 0, none⟩ = some (.int .i64 x) ∧ -40 ≤ x ∧ x ≤ 90) | _ => none) 4 (by kernel_rfl) (by kernel_rfl) (deal_up D wr) ?hT ⟨(Bel.refl D wr).drew, hh.ext (Ext.drew (Ext.refl _))⟩ ?_
      case hT =>
        intro i R hR
        match i, hR with
        | 2, hR => cases hR; exact fun _ _ _ h _ => h
        | 3, hR => cases hR; exact fun _ _ _ ⟨g, x, h1, h2, h3, h4⟩ k => ⟨g, x, h1, h2, k.1.cell h3 (by show g ≠ D; omega), h4⟩
      refine wpM_val ?u0 rfl rfl (Deal.refl D) (fun w' hD => ?h0) ?n0
      case h0 =>
        obtain ⟨d0, d1⟩ := FX.out w' hD.1
        go_simp; rfl
      simp only [Act.put, List.setIfInBounds_toArray, List.set_cons_succ, List.set_cons_zero, Nat.reduceAdd]
      refine wpM_val ?u1 rfl rfl (Deal.refl D) (fun w' hD => ?h1) ?n1
      case h1 =>
        obtain ⟨d0, d1⟩ := FX.out w' hD.1
        go_simp; rfl
      simp only [Act.put, List.setIfInBounds_toArray, List.set_cons_succ, List.set_cons_zero, Nat.reduceAdd]
      refine wpM_op _ rfl rfl (opens_call ?f2 ?g2 (fun w' hD => ?h2) (fun w' hD => ?c2)) (fun v2 hv2 => ?n2)
      case h2 => go_simp; constructor <;> rfl
      case c2 =>
        refine (from_any D (-40) 90 w' hD.1.2 (by omega) (by omega) (by omega) (by omega)).mono ?_
        rintro e w2 ⟨r, rfl, r1, r2, hb, hh⟩
        exact ⟨_, rfl, Deal.mk' hb hh, r, rfl, r1, by omega⟩
      obtain ⟨_, -, -, x, rfl, x1, x2⟩ := hv2
      simp only [Act.put, List.setIfInBounds_toArray, List.set_cons_succ, List.set_cons_zero, Nat.reduceAdd]
      refine wpM_op _ rfl rfl (opens_val (fun w' hD => ?h3)) (fun v3 hv3 => ?n3)
      case h3 =>
        refine ⟨.slice (some ⟨w'.heap.size, 0, none⟩) 1 1, w'.alloc (.cells #[.int .i64 x] 3), ?_, Deal.ext (Ext.alloc (Ext.refl _) _), _, x, rfl, hD.1.2.lt, ?_, x1, x2⟩
        · go_simp
        · simp [go_sem]
      obtain ⟨_, -, -, b3, x3, rfl, -⟩ := hv3
      simp only [Act.put, List.setIfInBounds_toArray, List.set_cons_succ, List.set_cons_zero, Nat.reduceAdd]
      refine wpM_nil ?_
      intro w9 hw9 hF9
      obtain ⟨-, g3, x3, e3, hg3, hc3, hx3⟩ := hF9 3
      cases e3
      clear hF9 FX
      obtain ⟨hb9, hh9⟩ := hw9
      have hsz9 := hb9.size
      have hs3 := hbs.size
      have O9 := hid (hb9.own O3.out (fun g hg => by
        obtain ⟨a, ha, he⟩ := slice_own hg
        have := own_block_lt O3.out a ha
        omega))
      have H9 := hid (hb9.heap G4.out (by omega))
      have f9 := fun i => block_free (i := i) H9.out
      have hR9 : R0 ≤ w9.heap.size := by omega
      clear p4 f4
      refine wpList_append_rd2 _ rfl _ _ 27 rfl elem_int R0 (.slice A rl.length c3) rl.length (rl.map (.int .i64)) rfl O9.out _ 1 1 [.int .i64 x3] rfl rfl ?qr (by intro u hu; simp at hu; subst hu; rfl) (by omega) hR9 ?_
      case qr => exact .inr ⟨b3, 0, rfl, fun j u hu => by
        match j with
        | 0 => cases hu; exact hc3
        | j + 1 => simp at hu⟩
      intro A5 c5 w5 hown5 hbel5 hgr5 hat5
      have hS5 : BelS (fun k => (Value.slice A rl.length c3).ownBlock = some k) w9 w5 := (BelS.refl _ w9).grown hgr5 (fun k e => e)
      have hAo : ∀ g, (Value.slice A rl.length c3).ownBlock = some g → g ≠ R0 + 1 ∧ R0 ≤ g := fun g hg => by
        obtain ⟨a, ha, he⟩ := slice_own hg
        have h1 := own_block_lt O3.out a ha
        have h2 := hA a ha
        omega
      have H5 := hid (hS5.heap H9.out (fun e => (hAo _ e).1 rfl))
      have p5 := block_cell (i := 0) H5.out
      have f5 := fun i => block_free (i := i) H5.out
      simp only [List.getElem?_toArray, List.getElem?_cons_zero] at p5
      have hA5 : ∀ a, A5 = some a → a.block ≠ R0 + 1 := fun a ha => by
        have h0 : (Value.slice A5 (rl.length + 1) c5).ownBlock = some a.block := by rw [ha]; rfl
        rw [h0] at hat5
        rcases hat5 with h1 | h1
        · exact (hAo _ h1.symm).1
        · have := Option.some.inj h1; omega
      have O5 := hid hown5
      have hh5 : HeapR w5 D := hh9.belS hS5 (fun k hk e => by have := hAo k e; omega)
      have hbs5 : BelS (fun k => k = D ∨ R0 ≤ k) W3 w5 := (hbs.trans (hb9.belS (.inl rfl))).trans (hS5.mono fun k _ e => .inr (hAo k e).2)
      clear hown5 hbel5 hgr5 hat5 O9 H9 f9 hb9 hh9 hbs hh G4 O3 hA hAo
      have xs5 : BelS (fun k => k = R0 + 1) w5 (w5.setCell ⟨R0 + 1, 0, none⟩ (.slice A5 (rl.length + 1) c5)) := BelS.setCell (S := fun k => k = R0 + 1) (BelS.refl _ w5) _ _ rfl
      have HLEN2 : Hid ((rl ++ [x3]).length = k + 1 + 1) := by unfold Hid; simp [HLEN.out]
      have HRL2 : Hid ((∀ x ∈ rl ++ [x3], -40 ≤ x ∧ x ≤ 90) ∧ (rl ++ [x3]).getD 0 0 = 0) := by
        refine ⟨fun x hx => ?_, ?_⟩
        · rcases List.mem_append.1 hx with h1 | h1
          · exact HRL.out.1 x h1
          · simp at h1; subst h1; exact hx3
        · have h1 := HLEN.out
          rw [List.getD_eq_getElem?_getD, List.getElem?_append_left (by omega), ← List.getD_eq_getElem?_getD]; exact HRL.out.2
      have G6 : Hid ((w5.setCell ⟨R0 + 1, 0, none⟩ (.slice A5 (rl.length + 1) c5)).heap[R0 + 1]? = some (.cells #[.slice A5 (rl ++ [x3]).length c5] 27 (0, 0))) := by
        have := heap_set H5.out (i := 0) (.slice A5 (rl.length + 1) c5)
        unfold Hid; simpa using this
      have O6 : Hid ((w5.setCell ⟨R0 + 1, 0, none⟩ (.slice A5 (rl.length + 1) c5)).ownsRow R0 3 1 (.slice A5 (rl ++ [x3]).length c5) (rl ++ [x3]).length ((rl ++ [x3]).map (.int .i64))) := by
        have := xs5.own O5.out (fun g hg => by
          obtain ⟨a, ha, he⟩ := slice_own hg
          have := hA5 a ha
          omega)
        unfold Hid; simpa using this
      have hh6 := hh5.belS xs5 (fun k hk => by omega)
      have hbs6 := hbs5.setCell ⟨R0 + 1, 0, none⟩ (.slice A5 (rl.length + 1) c5) (.inr (by show R0 ≤ R0 + 1; omega))
      have hl9 : (rl ++ [x3]).length ≤ 8 := by have := HLEN2.out; omega
      clear HRL HLEN O5 xs5 hh5 hbs5 H5
      go_wp2
      go_roundw
      case rel => exact ⟨k + 1, rl ++ [x3], A5, c5, by go_num, by omega, HLEN2, hl9, HRL2, G6, O6, hA5, hh6, hbs6⟩
      case measure => simp [intOf]; omega
    · have hl9 : (rl.length : Int) = ev := by have := HLEN.out; omega
      have hbb := hbs.heap G1.out (by omega)
      have p1 := block_cell (i := 0) hbb
      simp only [List.getElem?_toArray, List.getElem?_cons_zero] at p1
      have hs3 := hbs.size
      have HL := hid hl9
      have I1 : Ints wr A rl := Rd.of_own O3.out
      have hAD : ∀ a, A = some a → R0 ≤ a.block ∧ a.block < wr.heap.size := own_block_lt O3.out
      have G1 := hid hbb
      have G2 := hid (hbs.heap G2.out (by omega))
      have G3 := hid (hbs.heap G3.out (by omega))
      have y4 : Bel D w wr := y3.then_ hbs (fun k hk e => by have := HBh.out; omega)
      clear hl9 hbb O3 hbs HLEN hk
      obtain ⟨real, hreal⟩ : ∃ real, real = rl := ⟨rl, rfl⟩
      subst hreal
      go_wp2_with fail
      refine (upto_any D bm wr hh (by omega) (by omega)).mono ?_
      rintro e W4 ⟨nb, rfl, nb0, nb1, hb4, hh4⟩
      have hnb : nb ≤ bm := by omega
      obtain ⟨nbn, rfl⟩ : ∃ n : Nat, nb = n := ⟨nb.toNat, by omega⟩
      have hs4 := hb4.size
      have HRB : Hid (∀ a, A = some a → R0 ≤ a.block ∧ a.block < W4.heap.size) := fun a ha => by have := hAD a ha; omega
      have I4 : Ints W4 A real := hb4.rd I1 (fun a ha => by have := hAD a ha; omega)
      have G1 := hid (hb4.heap G1.out (by omega))
      have G2 := hid (hb4.heap G2.out (by omega))
      have G3 := hid (hb4.heap G3.out (by omega))
      have G4 := hid (hb4.heap G4.out (by omega))
      have y5 := y4.trans hb4
      have HR := hid HRL.out.1
      have HR0 := hid HRL.out.2
      have hsz : R0 + 2 ≤ W4.heap.size := by omega
      clear nb1 hb4 hh I1 hAD HRL hA p1 y4 hh3 y3 hs3 s3 hs4 hlt
      obtain ⟨B2, hB2⟩ : ∃ B2, W4.heap.size = B2 := ⟨_, rfl⟩
      have HB2 := hid hB2
      rw [hB2] at hsz
      clear hB2
      go_wp2
      go_loopw [42] (fun i wr => ∃ (k : Nat) (bl : List Bd) (A1 : Option Addr) (c1 : Nat), i = .int .i64 (k : Int) ∧ k ≤ nbn ∧ Hid (bl.length = k) ∧ bl.length ≤ 20 ∧ Hid (∀ b ∈ bl, bdMade ev real 0 25 b) ∧ Hid (wr.heap[Bc]? = some (.cells #[.int .i64 ev, .slice A1 bl.length c1, .int .i64 wi, .slice none 0 0] 26 (0, 0))) ∧
          Hid (wr.ownsRow B2 35 3 (.slice A1 bl.length c1) bl.length (bcells bl)) ∧ HeapR wr D ∧ BelS (fun k => k = D ∨ k = Bc ∨ B2 ≤ k) W4 wr) (fun i _ => nbn - (intOf i).toNat)
      case atStart => exact ⟨0, [], none, 0, rfl, by omega, rfl, by simp, (by intro b hb; cases hb), G3, own_nil _ _ _ _, hh4, BelS.refl _ _⟩
      case round =>
        obtain ⟨k, bl, A1, c1, rfl, hk, HLEN, hl20, HBL, G3, O3, hh, hbs⟩ := hrel
        by_cases hlt : k < nbn
        · have hlt' : (k : Int) < (nbn : Int) := by omega
          have p1 := block_cell (i := 0) (hbs.heap G1.out (by omega))
          have p4 := block_cell (i := 0) (hbs.heap G4.out (by omega))
          have p30 := block_cell (i := 0) G3.out
          have p31 := block_cell (i := 1) G3.out
          simp only [List.getElem?_toArray, List.getElem?_cons_zero, List.getElem?_cons_succ] at p1 p4 p30 p31
          have hI : Ints wr A real := hbs.rd I4 (fun a ha e => by have := HRB.out a ha; have := HB2.out; omega)
          have hws := hbs.size
          go_wp2
          have FX0 : ∀ w', (Bel D wr w' ∧ HeapR w' D) → w'.cell? ⟨R0 + 1, 0, none⟩ = some (.slice A real.length c3) ∧ w'.cell? ⟨Bh, 0, none⟩ = some (.pointer (some ⟨D, 0, none⟩)) ∧ w'.cell? ⟨Bc, 0, none⟩ = some (.int .i64 ev) ∧ w'.cell? ⟨Bc, 1, none⟩ = some (.slice A1 bl.length c1) ∧ Ints w' A real :=
            fun w' hw => ⟨hw.1.cell p4 (by show R0 + 1 ≠ D; omega), hw.1.cell p1 (by show Bh ≠ D; omega), hw.1.cell p30 (by show Bc ≠ D; omega), hw.1.cell p31 (by show Bc ≠ D; omega), hw.1.rd hI (fun a ha => by have := HRB.out a ha; omega)⟩
          have FX := hid FX0
          clear FX0 p1 p4 p30 p31
          refine wp_region_opens_tail (Deal D) (fun w' => Bel D wr w' ∧ HeapR w' D) (fun | 4 => some (fun v _ => ∃ x : Int, v = .int .i64 x ∧ 0 ≤ x ∧ x ≤ 25) | 5 => some (fun v _ => ∃ b : Bd, v = b.val ∧ bdMade ev real 0 25 b) | 6 => some (fun v w' => ∃ g b, v = .slice (some ⟨g, 0, none⟩) 1 1 ∧ D < g ∧ Rd w' (some ⟨g, 0, none⟩) (bcells [b]) ∧ bdMade ev real 0 25 b) | _ => none) 7 (by kernel_rfl) (by kernel_rfl) (deal_up D wr) ?hT ⟨(Bel.refl D wr).drew, hh.ext (Ext.drew (Ext.refl _))⟩ ?_
          case hT =>
            intro i R hR
            match i, hR with
            | 4, hR => cases hR; exact fun _ _ _ h _ => h
            | 5, hR => cases hR; exact fun _ _ _ h _ => h
            | 6, hR => cases hR; exact fun _ _ _ ⟨g, x, h1, h2, h3, h4⟩ k => ⟨g, x, h1, h2, k.1.rd h3 (fun a ha => by cases ha; show g ≠ D; omega), h4⟩
          refine wpM_val ?ub0 rfl rfl (Deal.refl D) (fun w' hD => ?hb0) ?nb0
          case hb0 =>
            obtain ⟨d0, d1, d2, d3, d4⟩ := FX.out w' hD.1
            go_simp; rfl
          simp only [Act.put, List.setIfInBounds_toArray, List.set_cons_succ, List.set_cons_zero, Nat.reduceAdd]
          refine wpM_val ?ub1 rfl rfl (Deal.refl D) (fun w' hD => ?hb1) ?nb1
          case hb1 =>
            obtain ⟨d0, d1, d2, d3, d4⟩ := FX.out w' hD.1
            go_simp; rfl
          simp only [Act.put, List.setIfInBounds_toArray, List.set_cons_succ, List.set_cons_zero, Nat.reduceAdd]
          refine wpM_val ?ub2 rfl rfl (Deal.refl D) (fun w' hD => ?hb2) ?nb2
          case hb2 =>
            obtain ⟨d0, d1, d2, d3, d4⟩ := FX.out w' hD.1
            go_simp; rfl
          simp only [Act.put, List.setIfInBounds_toArray, List.set_cons_succ, List.set_cons_zero, Nat.reduceAdd]
          refine wpM_val ?ub3 rfl rfl (Deal.refl D) (fun w' hD => ?hb3) ?nb3
          case hb3 =>
            obtain ⟨d0, d1, d2, d3, d4⟩ := FX.out w' hD.1
            go_simp; rfl
          simp only [Act.put, List.setIfInBounds_toArray, List.set_cons_succ, List.set_cons_zero, Nat.reduceAdd]
          refine wpM_op _ rfl rfl (opens_call ?fb4 ?gb4 (fun w' hD => ?hb4) (fun w' hD => ?cb4)) (fun v4 hv4 => ?nb4)
          case hb4 => go_simp; constructor <;> rfl
          case cb4 =>
            refine (upto_any D 25 w' hD.1.2 (by omega) (by omega)).mono ?_
            rintro e w2 ⟨r, rfl, r1, r2, hb, hh⟩
            exact ⟨_, rfl, Deal.mk' hb hh, r, rfl, r1, by omega⟩
          obtain ⟨_, -, -, x, rfl, x1, x2⟩ := hv4
          simp only [Act.put, List.setIfInBounds_toArray, List.set_cons_succ, List.set_cons_zero, Nat.reduceAdd]
          refine wpM_op _ rfl rfl (opens_call ?fb5 ?gb5 (fun w' hD => ?hb5) (fun w' hD => ?cb5)) (fun v5 hv5 => ?nb5)
          case hb5 => go_simp; constructor <;> rfl
          case cb5 =>
            obtain ⟨d0, d1, d2, d3, d4⟩ := FX.out w' hD.1
            refine (one_any D Bh Bc (R0 + 1) ev x A c3 real w' hD.1.2 d1 d2 d0 d4 (by omega) (by omega) (by omega) (fun a ha => by have := HRB.out a ha; omega) ev1 hev8 HL.out HR.out (by omega) (by omega)).mono ?_
            rintro e w2 ⟨b, rfl, hbm, hb, hh⟩
            exact ⟨_, rfl, Deal.mk' hb hh, b, rfl, hbm.1, hbm.2.1, hbm.2.2.1, by have := hbm.2.2.2.1; omega, by have := hbm.2.2.2.2; omega⟩
          obtain ⟨_, -, -, b, rfl, hbm⟩ := hv5
          simp only [Act.put, List.setIfInBounds_toArray, List.set_cons_succ, List.set_cons_zero, Nat.reduceAdd]
          refine wpM_op _ rfl rfl (opens_val (fun w' hD => ?hc6)) (fun v6 hv6 => ?nc6)
          case hc6 =>
            refine ⟨.slice (some ⟨w'.heap.size, 0, none⟩) 1 1, w'.alloc (.cells (bcells [b]).toArray 35), ?_, Deal.ext (Ext.alloc (Ext.refl _) _), _, b, rfl, hD.1.2.lt, ?_, hbm⟩
            · unfold Bd.val; go_simp; rfl
            · exact rd_block (heap_alloc_new _ _)
          obtain ⟨_, -, -, b6, bx6, rfl, -⟩ := hv6
          simp only [Act.put, List.setIfInBounds_toArray, List.set_cons_succ, List.set_cons_zero, Nat.reduceAdd]
          refine wpM_nil ?_
          intro w9 hw9 hF9
          obtain ⟨-, g3, b3x, e3, hg3, hc3, hx3⟩ := hF9 6
          cases e3
          clear hF9 FX
          obtain ⟨hb9, hh9⟩ := hw9
          have hsz9 := hb9.size
          have O9 := hid (hb9.own O3.out (fun g hg => by
            obtain ⟨a, ha, he⟩ := slice_own hg
            have := own_block_lt O3.out a ha
            omega))
          have H9 := hid (hb9.heap G3.out (by omega))
          have hR9 : B2 ≤ w9.heap.size := by have := HB2.out; omega
          try simp only [List.drop_succ_cons, List.drop_zero]
          refine wpList_append_rd2 _ rfl _ _ 23 rfl elem_bound B2 (.slice A1 bl.length c1) bl.length (bcells bl) rfl O9.out _ 1 1 (bcells [b3x]) rfl rfl hc3 (bcells_one _) (by omega) hR9 ?_
          intro A5 c5 w5 hown5 hbel5 hgr5 hat5
          have hS5 : BelS (fun k => (Value.slice A1 bl.length c1).ownBlock = some k) w9 w5 := (BelS.refl _ w9).grown hgr5 (fun k e => e)
          have hAo : ∀ g, (Value.slice A1 bl.length c1).ownBlock = some g → B2 ≤ g := fun g hg => by
            obtain ⟨a, ha, he⟩ := slice_own hg
            have h1 := own_block_lt O3.out a ha
            omega
          have H5 := hid (hS5.heap H9.out (fun e => by have := hAo _ e; omega))
          have p5 := block_cell (i := 1) H5.out
          have f5 := fun i => block_free (i := i) H5.out
          simp only [List.getElem?_toArray, List.getElem?_cons_zero, List.getElem?_cons_succ] at p5
          have O5 := hid hown5
          have hA5 : ∀ g, (Value.slice A5 (bl.length + 1) c5).ownBlock = some g → B2 ≤ g := fun g hg => by
            obtain ⟨a, ha, he⟩ := slice_own hg
            have h1 := own_block_lt O5.out a ha
            omega
          have hh5 : HeapR w5 D := hh9.belS hS5 (fun k hk e => by have := hAo k e; omega)
          have hbs5 : BelS (fun k => k = D ∨ k = Bc ∨ B2 ≤ k) W4 w5 := (hbs.trans (hb9.belS (.inl rfl))).trans (hS5.mono fun k _ e => .inr (.inr (hAo k e)))
          have xs5 : BelS (fun k => k = Bc) w5 (w5.setCell ⟨Bc, 1, none⟩ (.slice A5 (bl.length + 1) c5)) := BelS.setCell (S := fun k => k = Bc) (BelS.refl _ w5) _ _ rfl
          have HLEN2 : Hid ((bl ++ [b3x]).length = k + 1) := by unfold Hid; simp [HLEN.out]
          have HBL2 : Hid (∀ b ∈ bl ++ [b3x], bdMade ev real 0 25 b) := fun x hx => by
            rcases List.mem_append.1 hx with h1 | h1
            · exact HBL.out x h1
            · simp at h1; subst h1; exact hx3
          have G6 : Hid ((w5.setCell ⟨Bc, 1, none⟩ (.slice A5 (bl.length + 1) c5)).heap[Bc]? = some (.cells #[.int .i64 ev, .slice A5 (bl ++ [b3x]).length c5, .int .i64 wi, .slice none 0 0] 26 (0, 0))) := by
            have := heap_set H5.out (i := 1) (.slice A5 (bl.length + 1) c5)
            unfold Hid; simpa using this
          have O6 : Hid ((w5.setCell ⟨Bc, 1, none⟩ (.slice A5 (bl.length + 1) c5)).ownsRow B2 35 3 (.slice A5 (bl ++ [b3x]).length c5) (bl ++ [b3x]).length (bcells (bl ++ [b3x]))) := by
            have := xs5.own O5.out (fun g hg => by have := hA5 g hg; omega)
            unfold Hid; simpa [bcells_app] using this
          have hh6 := hh5.belS xs5 (fun k hk => by omega)
          have hbs6 := hbs5.setCell ⟨Bc, 1, none⟩ (.slice A5 (bl.length + 1) c5) (.inr (.inl rfl))
          have hl9 : (bl ++ [b3x]).length ≤ 20 := by have := HLEN2.out; omega
          clear HBL HLEN O5 xs5 hh5 hbs5 H5 hown5 hbel5 hgr5 hat5 O9 H9 hb9 hh9 hbs hh G3 O3 hAo hA5 hc3 hI
          go_wp2
          go_roundw
          case rel => exact ⟨k + 1, bl ++ [b3x], A5, c5, by go_num, by omega, HLEN2, hl9, HBL2, G6, O6, hh6, hbs6⟩
          case measure => simp [intOf]; omega
        · have hlt' : ¬ (k : Int) < (nbn : Int) := by omega
          have hlt2 : (nbn : Int) ≤ (k : Int) := by omega
          have hbm : bl.length ≤ bm := by have := HLEN.out; omega
          have p1 := block_cell (i := 0) (hbs.heap G1.out (by omega))
          simp only [List.getElem?_toArray, List.getElem?_cons_zero] at p1
          have hws := hbs.size
          have HW4 := HB2.out
          go_wp2_with fail
          refine (upto_any D cm wr hh (by omega) (by omega)).mono ?_
          rintro e W6 ⟨nc, rfl, nc0, nc1, hb6, hh6⟩
          have hnc : nc ≤ cm := by omega
          obtain ⟨ncn, rfl⟩ : ∃ n : Nat, nc = n := ⟨nc.toNat, by omega⟩
          have hs6 := hb6.size
          have z6 : BelS (fun k => k = D ∨ k = Bc ∨ B2 ≤ k) W4 W6 := hbs.trans (hb6.belS (.inl rfl))
          have I6 : Ints W6 A real := z6.rd I4 (fun a ha e => by have := HRB.out a ha; omega)
          have HRB6 : Hid (∀ a, A = some a → R0 ≤ a.block ∧ a.block < B2) := fun a ha => by have := HRB.out a ha; omega
          have J6 : Bounds W6 A1 bl := hb6.rd (Rd.of_own O3.out) (fun a ha => by have := own_block_lt O3.out a ha; omega)
          have HJ6 : Hid (∀ a, A1 = some a → B2 ≤ a.block ∧ a.block < W6.heap.size) := fun a ha => by have := own_block_lt O3.out a ha; omega
          have G1 := hid (z6.heap G1.out (by omega))
          have G2 := hid (z6.heap G2.out (by omega))
          have G4 := hid (z6.heap G4.out (by omega))
          have G3 := hid (hb6.heap G3.out (by omega))
          have y6 := y5.then_ z6 (fun k hk e => by have := HBh.out; omega)
          have hsz6 : B2 ≤ W6.heap.size := by omega
          clear nc1 hb6 hh I4 HRB p1 y5 hh4 hs6 z6 hws O3 hbs HLEN hk hlt
          obtain ⟨B3, hB3⟩ : ∃ B3, W6.heap.size = B3 := ⟨_, rfl⟩
          have HB3 := hid hB3
          rw [hB3] at hsz6
          rw [hB3] at HJ6
          clear hB3 HW4
          obtain ⟨lo, hLO⟩ : ∃ lo, lowM wrg = lo := ⟨_, rfl⟩
          have HLO := hid hLO
          have hlo : -40 ≤ lo ∧ lo ≤ 0 := by rw [← hLO]; unfold lowM; split <;> omega
          clear hLO
          obtain ⟨hlo1, hlo2⟩ := hlo
          go_wp2
          go_loopw [57] (fun i wr => ∃ (k : Nat) (cls : List Cl) (A2 : Option Addr) (c2 : Nat) (xs : List Value), i = .int .i64 (k : Int) ∧ k ≤ ncn ∧ Hid (cls.length = k) ∧ cls.length ≤ 8 ∧ Hid (∀ x ∈ cls, (0 ≤ x.w ∧ x.w < wi) ∧ x.bs.length ≤ 3 ∧ ∀ b ∈ x.bs, bdMade ev real lo 12 b) ∧ Hid (wr.heap[Bc]? = some (.cells #[.int .i64 ev, .slice A1 bl.length c1, .int .i64 wi, .slice A2 cls.length c2] 26 (0, 0))) ∧
              Hid (wr.ownsRow B3 37 2 (.slice A2 cls.length c2) cls.length xs) ∧ Hid (ClP (fun p => B3 ≤ p.block ∧ p.block < wr.heap.size ∧ ∀ g, (Value.slice A2 cls.length c2).ownBlock = some g → p.block ≠ g) wr xs cls) ∧ HeapR wr D ∧ BelS (fun k => k = D ∨ k = Bc ∨ B3 ≤ k) W6 wr) (fun i _ => ncn - (intOf i).toNat)
          case atStart => exact ⟨0, [], none, 0, [], rfl, by omega, rfl, by simp, (by intro x hx; cases hx), G3, own_nil _ _ _ _, trivial, hh6, BelS.refl _ _⟩
          case round =>
            obtain ⟨k, cls, A2, c2, xs, rfl, hk, HLEN, hl8c, HCL, G3, O3, HCP, hh, hbs⟩ := hrel
            have hws := hbs.size
            have hW6 := HB3.out
            have hg1 := hbs.heap G1.out (by omega)
            by_cases hlt : k < ncn
            · have hlt' : (k : Int) < (ncn : Int) := by omega
              have hg4 := hbs.heap G4.out (by omega)
              have p1 := block_cell (i := 0) hg1
              have p32 := block_cell (i := 2) G3.out
              simp only [List.getElem?_toArray, List.getElem?_cons_zero, List.getElem?_cons_succ] at p1 p32
              have hI : Ints wr A real := hbs.rd I6 (fun a ha e => by have := HRB6.out a ha; omega)
              have G1w := hid hg1
              have G4w := hid hg4
              clear hg1 hg4
              obtain ⟨wo, rfl⟩ : ∃ wo : World, wo = wr := ⟨_, rfl⟩
              go_wp2_with fail
              refine (upto_any D (wi - 1) wo hh (by omega) (by omega)).mono ?_
              rintro e W7 ⟨wt, rfl, wt0, wt1, hb7, hh7⟩
              have hwt : wt < wi := by omega
              have hs7 := hb7.size
              have p17 := hb7.cell p1 (by show Bh ≠ D; omega)
              have q17 := fun o => (Ext.alloc (Ext.refl W7) o).cell p17
              go_wp2_with fail
              have xa := Ext.alloc (Ext.refl W7) (.cells #[.int .i64 wt, .slice none 0 0] 37)
              refine (upto_any D 12 _ (hh7.ext xa) (by omega) (by omega)).mono ?_
              rintro e W8 ⟨of_, rfl, of0, of1, hb8, hh8⟩
              have hof : of_ ≤ 12 := by omega
              have z8 : Bel D wo W8 := hb7.trans ((xa.bel (D := D)).trans hb8)
              have GX := hid (hb8.heap (heap_alloc_new W7 (.cells #[.int .i64 wt, .slice none 0 0] 37)) (by omega))
              have s8 : W7.heap.size + 1 ≤ W8.heap.size := by have := hb8.size; simpa using this
              have p18 := z8.cell p1 (by show Bh ≠ D; omega)
              generalize hBx : W7.heap.size = Bx at GX s8 hs7 ⊢
              have HBx := hid hBx
              clear hBx wt1 of1 hb7 hh7 xa hb8 p17 q17 hh p32
              go_upto_region 18 with fail
              go_cut [73] (fun s73 wx => ∃ b, s73 = .bool b ∧ (wrg = 0 → b = false) ∧ Bel D W8 wx ∧ HeapR wx D)
              case first =>
                by_cases hw0 : wrg = 0
                · have hd : ¬ (0 : Nat) < wrg := by omega
                  have hd2 : ¬ (0 : Int) < (wrg : Int) := by omega
                  have HW := hid hw0
                  clear hw0
                  go_wp2_with fail
                  go_meet
                  exact ⟨false, rfl, fun _ => rfl, Bel.refl _ _, hh8⟩
                · have hd : (0 : Nat) < wrg := by omega
                  have hd2 : (0 : Int) < (wrg : Int) := by omega
                  have HW := hid hw0
                  clear hw0
                  go_wp2_with fail
                  refine (once_any D wrg W8 hh8 (by omega) (by omega)).mono ?_
                  rintro e Wx ⟨b, rfl, hbx, hhx⟩
                  go_wp2_with fail
                  go_meet
                  exact ⟨b, rfl, fun h => absurd h HW.out, hbx, hhx⟩
              case rest =>
                obtain ⟨b, rfl, hb0, hbc, hhc⟩ := hcut
                have HB0 := hid hb0
                have p19 := hbc.cell p18 (by show Bh ≠ D; omega)
                clear hb0 p18
                go_upto_if 73 with fail
                go_cut [16] (fun s16 wx => ∃ o : Int, s16 = .int .i64 o ∧ lo ≤ o ∧ o ≤ 12 ∧ Bel D W8 wx ∧ HeapR wx D)
                case first =>
                  cases b
                  · go_wp2_with fail
                    go_meet
                    exact ⟨of_, rfl, by omega, hof, hbc, hhc⟩
                  · have hlo40 : lo = -40 := by
                      rw [← HLO.out]; unfold lowM; rw [if_neg (fun e => by have := HB0.out e; cases this)]
                    have HLO40 := hid hlo40
                    clear hlo40
                    go_wp2_with fail
                    refine (from_any D 1 40 _ hhc (by omega) (by omega) (by omega) (by omega)).mono ?_
                    rintro e Wx ⟨q, rfl, q1, q2, hbx, hhx⟩
                    have q40 : q ≤ 40 := by omega
                    go_wp2_with fail
                    go_meet
                    exact ⟨-q, rfl, by have := HLO40.out; omega, by omega, hbc.trans hbx, hhx⟩
                case rest =>
                  obtain ⟨off, rfl, off1, off2, hbd, hhd⟩ := hcut
                  have p19 := hbd.cell (z8.cell p1 (by show Bh ≠ D; omega)) (by show Bh ≠ D; omega)
                  go_wp2_with fail
                  refine (from_any D 1 3 _ hhd (by omega) (by omega) (by omega) (by omega)).mono ?_
                  rintro e W9 ⟨nj, rfl, nj1, nj2, hb9, hh9⟩
                  have hnj : nj ≤ 3 := by omega
                  obtain ⟨njn, rfl⟩ : ∃ n : Nat, nj = n := ⟨nj.toNat, by omega⟩
                  have hX9 := hbd.trans hb9
                  have z9 : Bel D wo W9 := z8.trans hX9
                  have GX := hid (hX9.heap GX.out (by omega))
                  have s9 : Bx + 1 ≤ W9.heap.size := by have := hX9.size; omega
                  have p1' := z9.cell p1 (by show Bh ≠ D; omega)
                  have G1 := hid (z9.heap G1w.out (by omega))
                  have G4 := hid (z9.heap G4w.out (by omega))
                  have G3 := hid (z9.heap G3.out (by omega))
                  have hI : Ints W9 A real := z9.rd hI (fun a ha => by have := HRB6.out a ha; omega)
                  have hgo : ∀ g, (Value.slice A2 cls.length c2).ownBlock = some g → B3 ≤ g ∧ g < wo.heap.size := fun g hg => by
                    obtain ⟨a, ha, he⟩ := slice_own hg
                    have := own_block_lt O3.out a ha
                    omega
                  have HGO := hid hgo
                  clear hgo
                  have O3 := hid (z9.own O3.out (fun g hg => by
                    obtain ⟨a, ha, he⟩ := slice_own hg
                    have := own_block_lt O3.out a ha
                    omega))
                  have hbs := hbs.trans (z9.belS (S := fun k => k = D ∨ k = Bc ∨ B3 ≤ k) (.inl rfl))
                  have HCP : Hid (ClP (fun p => B3 ≤ p.block ∧ p.block < wo.heap.size ∧ ∀ g, (Value.slice A2 cls.length c2).ownBlock = some g → p.block ≠ g) W9 xs cls) := HCP.out.belS (z9.belS (S := fun k => k = D) rfl) (fun p hp e => by have h := hp.1; omega)
                  have hwo : wo.heap.size ≤ Bx := hs7
                  obtain ⟨B4, hB4⟩ : ∃ B4, W9.heap.size = B4 := ⟨_, rfl⟩
                  have HB4 := hid hB4
                  rw [hB4] at s9
                  clear hB4 nj2 hb9 hhd hbd hhc hbc hh8 p19 p1 hX9 z8 z9
                  go_wp2
                  go_loopw [79] (fun i wr => ∃ (j : Nat) (bs : List Bd) (A4 : Option Addr) (c4 : Nat), i = .int .i64 (j : Int) ∧ j ≤ njn ∧ Hid (bs.length = j) ∧ bs.length ≤ 3 ∧ Hid (∀ b ∈ bs, bdMade ev real lo 12 b) ∧ Hid (wr.heap[Bx]? = some (.cells #[.int .i64 wt, .slice A4 bs.length c4] 37 (0, 0))) ∧
                      Hid (wr.ownsRow B4 35 3 (.slice A4 bs.length c4) bs.length (bcells bs)) ∧ HeapR wr D ∧ BelS (fun k => k = D ∨ k = Bx ∨ B4 ≤ k) W9 wr) (fun i _ => njn - (intOf i).toNat)
                  case atStart => exact ⟨0, [], none, 0, rfl, by omega, rfl, by simp, (by intro b hb; cases hb), GX, own_nil _ _ _ _, hh9, BelS.refl _ _⟩
                  case round =>
                    obtain ⟨j, bs, A4, c4, rfl, hj, HLEN4, hl3, HBL, GX, O4, hh4, hbs4⟩ := hrel
                    have hws4 := hbs4.size
                    have hW9 := HB4.out
                    by_cases hltj : j < njn
                    · have hltj' : (j : Int) < (njn : Int) := by omega
                      have p1 := block_cell (i := 0) (hbs4.heap G1.out (by omega))
                      have p4 := block_cell (i := 0) (hbs4.heap G4.out (by omega))
                      have p30 := block_cell (i := 0) (hbs4.heap G3.out (by omega))
                      have pX := block_cell (i := 1) GX.out
                      simp only [List.getElem?_toArray, List.getElem?_cons_zero, List.getElem?_cons_succ] at p1 p4 p30 pX
                      have hI4 : Ints wr A real := hbs4.rd hI (fun a ha e => by have := HRB6.out a ha; omega)
                      go_wp2
                      have FX0 : ∀ w', (Bel D wr w' ∧ HeapR w' D) → w'.cell? ⟨R0 + 1, 0, none⟩ = some (.slice A real.length c3) ∧ w'.cell? ⟨Bh, 0, none⟩ = some (.pointer (some ⟨D, 0, none⟩)) ∧ w'.cell? ⟨Bc, 0, none⟩ = some (.int .i64 ev) ∧ w'.cell? ⟨Bx, 1, none⟩ = some (.slice A4 bs.length c4) ∧ Ints w' A real :=
                        fun w' hw => ⟨hw.1.cell p4 (by show R0 + 1 ≠ D; omega), hw.1.cell p1 (by show Bh ≠ D; omega), hw.1.cell p30 (by show Bc ≠ D; omega), hw.1.cell pX (by show Bx ≠ D; omega), hw.1.rd hI4 (fun a ha => by have := HRB6.out a ha; omega)⟩
                      have FX := hid FX0
                      clear FX0 p1 p4 p30 pX
                      refine wp_region_opens_tail (Deal D) (fun w' => Bel D wr w' ∧ HeapR w' D) (fun | 4 => some (fun v _ => ∃ b : Bd, v = b.val ∧ bdMade ev real lo 12 b) | 5 => some (fun v w' => ∃ g b, v = .slice (some ⟨g, 0, none⟩) 1 1 ∧ D < g ∧ Rd w' (some ⟨g, 0, none⟩) (bcells [b]) ∧ bdMade ev real lo 12 b) | _ => none) 6 (by kernel_rfl) (by kernel_rfl) (deal_up D wr) ?hT ⟨(Bel.refl D wr).drew, hh4.ext (Ext.drew (Ext.refl _))⟩ ?_
                      case hT =>
                        intro i R hR
                        match i, hR with
                        | 4, hR => cases hR; exact fun _ _ _ h _ => h
                        | 5, hR => cases hR; exact fun _ _ _ ⟨g, x, h1, h2, h3, h4⟩ k => ⟨g, x, h1, h2, k.1.rd h3 (fun a ha => by cases ha; show g ≠ D; omega), h4⟩
                      refine wpM_val ?uc0 rfl rfl (Deal.refl D) (fun w' hD => ?hc0) ?nc0
                      case hc0 =>
                        obtain ⟨d0, d1, d2, d3, d4⟩ := FX.out w' hD.1
                        go_simp; rfl
                      simp only [Act.put, List.setIfInBounds_toArray, List.set_cons_succ, List.set_cons_zero, Nat.reduceAdd]
                      refine wpM_val ?uc1 rfl rfl (Deal.refl D) (fun w' hD => ?hc1) ?nc1
                      case hc1 =>
                        obtain ⟨d0, d1, d2, d3, d4⟩ := FX.out w' hD.1
                        go_simp; rfl
                      simp only [Act.put, List.setIfInBounds_toArray, List.set_cons_succ, List.set_cons_zero, Nat.reduceAdd]
                      refine wpM_val ?uc2 rfl rfl (Deal.refl D) (fun w' hD => ?hc2) ?nc2
                      case hc2 =>
                        obtain ⟨d0, d1, d2, d3, d4⟩ := FX.out w' hD.1
                        go_simp; rfl
                      simp only [Act.put, List.setIfInBounds_toArray, List.set_cons_succ, List.set_cons_zero, Nat.reduceAdd]
                      refine wpM_val ?uc3 rfl rfl (Deal.refl D) (fun w' hD => ?hc3) ?nc3
                      case hc3 =>
                        obtain ⟨d0, d1, d2, d3, d4⟩ := FX.out w' hD.1
                        go_simp; rfl
                      simp only [Act.put, List.setIfInBounds_toArray, List.set_cons_succ, List.set_cons_zero, Nat.reduceAdd]
                      refine wpM_op _ rfl rfl (opens_call ?fc4 ?gc4 (fun w' hD => ?hc4) (fun w' hD => ?cc4)) (fun v4 hv4 => ?nc4)
                      case hc4 => go_simp; constructor <;> rfl
                      case cc4 =>
                        obtain ⟨d0, d1, d2, d3, d4⟩ := FX.out w' hD.1
                        refine (one_any D Bh Bc (R0 + 1) ev off A c3 real w' hD.1.2 d1 d2 d0 d4 (by omega) (by omega) (by omega) (fun a ha => by have := HRB6.out a ha; omega) ev1 hev8 HL.out HR.out (by omega) (by omega)).mono ?_
                        rintro e w2 ⟨b, rfl, hbm, hb, hh⟩
                        exact ⟨_, rfl, Deal.mk' hb hh, b, rfl, hbm.1, hbm.2.1, hbm.2.2.1, by have := hbm.2.2.2.1; omega, by have := hbm.2.2.2.2; omega⟩
                      obtain ⟨_, -, -, b, rfl, hbm⟩ := hv4
                      simp only [Act.put, List.setIfInBounds_toArray, List.set_cons_succ, List.set_cons_zero, Nat.reduceAdd]
                      refine wpM_op _ rfl rfl (opens_val (fun w' hD => ?hd6)) (fun v6 hv6 => ?nd6)
                      case hd6 =>
                        refine ⟨.slice (some ⟨w'.heap.size, 0, none⟩) 1 1, w'.alloc (.cells (bcells [b]).toArray 35), ?_, Deal.ext (Ext.alloc (Ext.refl _) _), _, b, rfl, hD.1.2.lt, ?_, hbm⟩
                        · unfold Bd.val; go_simp; rfl
                        · exact rd_block (heap_alloc_new _ _)
                      obtain ⟨_, -, -, b6, bx6, rfl, -⟩ := hv6
                      simp only [Act.put, List.setIfInBounds_toArray, List.set_cons_succ, List.set_cons_zero, Nat.reduceAdd]
                      refine wpM_nil ?_
                      intro w9 hw9 hF9
                      obtain ⟨-, g3, b3x, e3, hg3, hc3, hx3⟩ := hF9 5
                      cases e3
                      clear hF9 FX
                      obtain ⟨hb9, hh9⟩ := hw9
                      have hsz9 := hb9.size
                      have O9 := hid (hb9.own O4.out (fun g hg => by
                        obtain ⟨a, ha, he⟩ := slice_own hg
                        have := own_block_lt O4.out a ha
                        omega))
                      have H9 := hid (hb9.heap GX.out (by omega))
                      have hR9 : B4 ≤ w9.heap.size := by omega
                      try simp only [List.drop_succ_cons, List.drop_zero]
                      refine wpList_append_rd2 _ rfl _ _ 23 rfl elem_bound B4 (.slice A4 bs.length c4) bs.length (bcells bs) rfl O9.out _ 1 1 (bcells [b3x]) rfl rfl hc3 (bcells_one _) (by omega) hR9 ?_
                      intro A5 c5 w5 hown5 hbel5 hgr5 hat5
                      have hS5 : BelS (fun k => (Value.slice A4 bs.length c4).ownBlock = some k) w9 w5 := (BelS.refl _ w9).grown hgr5 (fun k e => e)
                      have hAo : ∀ g, (Value.slice A4 bs.length c4).ownBlock = some g → B4 ≤ g := fun g hg => by
                        obtain ⟨a, ha, he⟩ := slice_own hg
                        have h1 := own_block_lt O4.out a ha
                        omega
                      have H5 := hid (hS5.heap H9.out (fun e => by have := hAo _ e; omega))
                      have p5 := block_cell (i := 1) H5.out
                      have f5 := fun i => block_free (i := i) H5.out
                      simp only [List.getElem?_toArray, List.getElem?_cons_zero, List.getElem?_cons_succ] at p5
                      have O5 := hid hown5
                      have hA5 : ∀ g, (Value.slice A5 (bs.length + 1) c5).ownBlock = some g → B4 ≤ g := fun g hg => by
                        obtain ⟨a, ha, he⟩ := slice_own hg
                        have h1 := own_block_lt O5.out a ha
                        omega
                      have hh5 : HeapR w5 D := hh9.belS hS5 (fun k hk e => by have := hAo k e; omega)
                      have hbs5 : BelS (fun k => k = D ∨ k = Bx ∨ B4 ≤ k) W9 w5 := (hbs4.trans (hb9.belS (.inl rfl))).trans (hS5.mono fun k _ e => .inr (.inr (hAo k e)))
                      have xs5 : BelS (fun k => k = Bx) w5 (w5.setCell ⟨Bx, 1, none⟩ (.slice A5 (bs.length + 1) c5)) := BelS.setCell (S := fun k => k = Bx) (BelS.refl _ w5) _ _ rfl
                      have HLEN2 : Hid ((bs ++ [b3x]).length = j + 1) := by unfold Hid; simp [HLEN4.out]
                      have HBL2 : Hid (∀ b ∈ bs ++ [b3x], bdMade ev real lo 12 b) := fun x hx => by
                        rcases List.mem_append.1 hx with h1 | h1
                        · exact HBL.out x h1
                        · simp at h1; subst h1; exact hx3
                      have G6 : Hid ((w5.setCell ⟨Bx, 1, none⟩ (.slice A5 (bs.length + 1) c5)).heap[Bx]? = some (.cells #[.int .i64 wt, .slice A5 (bs ++ [b3x]).length c5] 37 (0, 0))) := by
                        have := heap_set H5.out (i := 1) (.slice A5 (bs.length + 1) c5)
                        unfold Hid; simpa using this
                      have O6 : Hid ((w5.setCell ⟨Bx, 1, none⟩ (.slice A5 (bs.length + 1) c5)).ownsRow B4 35 3 (.slice A5 (bs ++ [b3x]).length c5) (bs ++ [b3x]).length (bcells (bs ++ [b3x]))) := by
                        have := xs5.own O5.out (fun g hg => by have := hA5 g hg; omega)
                        unfold Hid; simpa [bcells_app] using this
                      have hh6 := hh5.belS xs5 (fun k hk => by omega)
                      have hbs6 := hbs5.setCell ⟨Bx, 1, none⟩ (.slice A5 (bs.length + 1) c5) (.inr (.inl rfl))
                      have hl9 : (bs ++ [b3x]).length ≤ 3 := by have := HLEN2.out; omega
                      clear HBL HLEN4 O5 xs5 hh5 hbs5 H5 hown5 hbel5 hgr5 hat5 O9 H9 hb9 hh9 hbs4 hh4 O4 hAo hA5 hc3 hI4
                      go_wp2
                      go_roundw
                      case rel => exact ⟨j + 1, bs ++ [b3x], A5, c5, by go_num, by omega, HLEN2, hl9, HBL2, G6, O6, hh6, hbs6⟩
                      case measure => simp [intOf]; omega
                    · have hltj' : ¬ (j : Int) < (njn : Int) := by omega
                      have hltj2 : (njn : Int) ≤ (j : Int) := by omega
                      have g3 := hbs4.heap G3.out (by omega)
                      have p33 := block_cell (i := 3) g3
                      have pX0 := block_cell (i := 0) GX.out
                      have pX1 := block_cell (i := 1) GX.out
                      simp only [List.getElem?_toArray, List.getElem?_cons_zero, List.getElem?_cons_succ] at p33 pX0 pX1
                      have O7 : Hid (wr.ownsRow B3 37 2 (.slice A2 cls.length c2) cls.length xs) := hbs4.own O3.out (fun g hg e => by have := HGO.out g hg; omega)
                      have hxo := Ext.alloc (Ext.refl wr) (.cells #[.int .i64 wt, .slice A4 bs.length c4] 37)
                      have hR9 : B3 ≤ (wr.alloc (.cells #[.int .i64 wt, .slice A4 bs.length c4] 37)).heap.size := by have := hxo.size; omega
                      have hcl9 : cls.length + 1 ≤ 9 := by omega
                      go_wp2_with (at_builtin; refine wpList_append_rd2 _ rfl _ _ 24 rfl elem_claim B3 (.slice A2 cls.length c2) cls.length xs rfl (own_below O7.out hxo) _ 1 1 [.int .i64 wt, .slice A4 bs.length c4] rfl rfl (rd_block (heap_alloc_new wr _)) (by intro u hu; simp at hu; rcases hu with rfl | rfl <;> rfl) (by omega) hR9 ?_)
                      intro A5 c5 w5 hown5 hbel5 hgr5 hat5
                      have hsn : (wr.alloc (.cells #[.int .i64 wt, .slice A4 bs.length c4] 37)).heap.size = wr.heap.size + 1 := by simp
                      have hS5 : BelS (fun k => (Value.slice A2 cls.length c2).ownBlock = some k) wr w5 := BelS.trans (hxo.belS) ((BelS.refl _ _).grown hgr5 (fun k e => e))
                      have H5 := hid (hS5.heap g3 (fun e => by have := HGO.out _ e; omega))
                      have p5 := block_cell (i := 3) H5.out
                      have f5 := fun i => block_free (i := i) H5.out
                      simp only [List.getElem?_toArray, List.getElem?_cons_zero, List.getElem?_cons_succ] at p5
                      have O5 := hid hown5
                      have hA5 : ∀ g, (Value.slice A5 (cls.length + 1) c5).ownBlock = some g → B3 ≤ g := fun g hg => by
                        obtain ⟨a, ha, he⟩ := slice_own hg
                        have h1 := own_block_lt O5.out a ha
                        omega
                      have hA5b : ∀ g, (Value.slice A5 (cls.length + 1) c5).ownBlock = some g → (Value.slice A2 cls.length c2).ownBlock = some g ∨ g = wr.heap.size + 1 := fun g hg => by
                        rcases hat5 with h1 | h1
                        · exact .inl (h1.symm.trans hg)
                        · rw [h1] at hg; right
                          have := Option.some.inj hg; omega
                      have hs5 := hS5.size
                      have hA4 : ∀ p, A4 = some p → B4 ≤ p.block ∧ p.block < wr.heap.size := own_block_lt O4.out
                      have J4 : Bounds wr A4 bs := Rd.of_own O4.out
                      have J5 : Bounds w5 A4 bs := hS5.rd J4 (fun p hp e => by have := hA4 p hp; have := HGO.out _ e; omega)
                      have hh5 : HeapR w5 D := hh4.belS hS5 (fun k hk e => by have := HGO.out k e; omega)
                      have hbs5 : BelS (fun k => k = D ∨ k = Bc ∨ B3 ≤ k) W6 w5 := (hbs.then_ hbs4 (fun k hk e => by rcases e with e | e | e; exact .inl e; omega; omega)).trans (hS5.mono fun k _ e => .inr (.inr (HGO.out k e).1))
                      have HCP4 := HCP.out.belS hbs4 (fun p hp e => by have := hp.1; have := hp.2.1; omega)
                      have HCP5 := HCP4.belS hS5 (fun p hp e => hp.2.2 _ e rfl)
                      have xs5 : BelS (fun k => k = Bc) w5 (w5.setCell ⟨Bc, 3, none⟩ (.slice A5 (cls.length + 1) c5)) := BelS.setCell (S := fun k => k = Bc) (BelS.refl _ w5) _ _ rfl
                      have hw6 : (w5.setCell ⟨Bc, 3, none⟩ (.slice A5 (cls.length + 1) c5)).heap.size = w5.heap.size := by simp [World.setCell]
                      have HCP6 : Hid (ClP (fun p => B3 ≤ p.block ∧ p.block < (w5.setCell ⟨Bc, 3, none⟩ (.slice A5 (cls.length + 1) c5)).heap.size ∧ ∀ g, (Value.slice A5 (cls ++ [(⟨wt, bs⟩ : Cl)]).length c5).ownBlock = some g → p.block ≠ g) (w5.setCell ⟨Bc, 3, none⟩ (.slice A5 (cls.length + 1) c5)) (xs ++ [.int .i64 wt, .slice A4 bs.length c4]) (cls ++ [(⟨wt, bs⟩ : Cl)])) := by
                        have hl : (cls ++ [(⟨wt, bs⟩ : Cl)]).length = cls.length + 1 := by simp
                        unfold Hid
                        rw [hl]
                        refine ClP.app (ys := [.int .i64 wt, .slice A4 bs.length c4]) (m := [⟨wt, bs⟩]) (ClP.mono (fun p hp => ?_) (HCP5.belS xs5 (fun p hp e => by have := hp.1; omega))) ⟨rfl, ⟨A4, c4, rfl, xs5.rd J5 (fun p hp e => by have := hA4 p hp; omega), fun p hp => ?_⟩, trivial⟩
                        · refine ⟨hp.1, by have := hp.2.1; omega, fun g hg => ?_⟩
                          rcases hA5b g hg with h1 | h1
                          · exact hp.2.2 g h1
                          · have := hp.2.1; omega
                        · have h4 := hA4 p hp
                          refine ⟨by omega, by omega, fun g hg => ?_⟩
                          rcases hA5b g hg with h1 | h1
                          · have := HGO.out g h1; omega
                          · omega
                      have HLEN2 : Hid ((cls ++ [(⟨wt, bs⟩ : Cl)]).length = k + 1) := by unfold Hid; simp [HLEN.out]
                      have HCL2 : Hid (∀ x ∈ cls ++ [(⟨wt, bs⟩ : Cl)], (0 ≤ x.w ∧ x.w < wi) ∧ x.bs.length ≤ 3 ∧ ∀ b ∈ x.bs, bdMade ev real lo 12 b) := fun x hx => by
                        rcases List.mem_append.1 hx with h1 | h1
                        · exact HCL.out x h1
                        · simp at h1; subst h1; exact ⟨⟨wt0, hwt⟩, hl3, HBL.out⟩
                      have G6 : Hid ((w5.setCell ⟨Bc, 3, none⟩ (.slice A5 (cls.length + 1) c5)).heap[Bc]? = some (.cells #[.int .i64 ev, .slice A1 bl.length c1, .int .i64 wi, .slice A5 (cls ++ [(⟨wt, bs⟩ : Cl)]).length c5] 26 (0, 0))) := by
                        have := heap_set H5.out (i := 3) (.slice A5 (cls.length + 1) c5)
                        unfold Hid; simpa using this
                      have O6 : Hid ((w5.setCell ⟨Bc, 3, none⟩ (.slice A5 (cls.length + 1) c5)).ownsRow B3 37 2 (.slice A5 (cls ++ [(⟨wt, bs⟩ : Cl)]).length c5) (cls ++ [(⟨wt, bs⟩ : Cl)]).length (xs ++ [.int .i64 wt, .slice A4 bs.length c4])) := by
                        have := xs5.own O5.out (fun g hg => by have := hA5 g hg; omega)
                        unfold Hid; simpa using this
                      have hh6 := hh5.belS xs5 (fun k hk => by omega)
                      have hbs6 := hbs5.setCell ⟨Bc, 3, none⟩ (.slice A5 (cls.length + 1) c5) (.inr (.inl rfl))
                      have hl9 : (cls ++ [(⟨wt, bs⟩ : Cl)]).length ≤ 8 := by have := HLEN2.out; omega
                      clear HCL HLEN O5 xs5 hh5 hbs5 H5 hown5 hbel5 hgr5 hat5 hbs4 hh4 O4 hA5 hA5b hA4 J4 J5 HCP4 HCP5 hsn hw6 hxo
                      go_wp2
                      go_roundw
                      case rel => exact ⟨k + 1, cls ++ [(⟨wt, bs⟩ : Cl)], A5, c5, _, by go_num, by omega, HLEN2, hl9, HCL2, G6, O6, HCP6, hh6, hbs6⟩
                      case measure => simp [intOf]; omega
            · have hlt' : ¬ (k : Int) < (ncn : Int) := by omega
              have hlt2 : (ncn : Int) ≤ (k : Int) := by omega
              have hcm : cls.length ≤ cm := by have := HLEN.out; omega
              have p30 := block_cell (i := 0) G3.out
              have p31 := block_cell (i := 1) G3.out
              have p32 := block_cell (i := 2) G3.out
              have p33 := block_cell (i := 3) G3.out
              have p4 := block_cell (i := 0) (hbs.heap G4.out (by omega))
              have g2 := hbs.heap G2.out (by omega)
              have G2w := hid g2
              have r0 := block_cell (i := 0) g2
              have r1 := block_cell (i := 1) g2
              have r2 := block_cell (i := 2) g2
              have r3 := block_cell (i := 3) g2
              have rf := fun i => block_free (i := i) g2
              simp only [List.getElem?_toArray, List.getElem?_cons_zero, List.getElem?_cons_succ] at p30 p31 p32 p33 p4 r0 r1 r2 r3
              clear hg1 g2
              have hne : ¬ Bc = Bh + 1 := by omega
              have hne2 : ¬ R0 + 1 = Bh + 1 := by omega
              have hJ : Bounds wr A1 bl := hbs.rd J6 (fun p hp e => by have := HJ6.out p hp; omega)
              have hRl : Ints wr A real := hbs.rd I6 (fun a ha e => by have := HRB6.out a ha; omega)
              have hAA : ∀ a, A = some a → a.block ≠ Bh + 1 := fun a ha => by have := HRB6.out a ha; omega
              have hA11 : ∀ a, A1 = some a → a.block ≠ Bh + 1 := fun a ha => by have := HJ6.out a ha; omega
              have hown := O3.out
              have hclb : ∀ a, A2 = some a → a.block ≠ Bh + 1 := fun a ha => by have := own_block_lt hown a ha; omega
              have HCL2 := HCP.out.toC
              have HRC : Hid (Claims wr A2 cls) := ⟨xs, Rd.of_own hown, HCL2⟩
              have HMade : Hid (MadeOK evm bm cm lo ⟨ev, bl, wi, cls⟩ real) :=
                ⟨ev1, hev, HL.out, HR0.out, HR.out, ⟨by show (0 : Int) ≤ wi; omega, hwi6⟩, hbm, hcm, HBL.out, HCL.out⟩
              go_wp2
              go_region
              have x9 : BelS (fun k => k = Bh + 1) wr (((((wr.setCell ⟨Bh + 1, 0, none⟩ (.int .i64 ev)).setCell ⟨Bh + 1, 1, none⟩ (.slice A1 bl.length c1)).setCell ⟨Bh + 1, 2, none⟩ (.int .i64 wi)).setCell ⟨Bh + 1, 3, none⟩ (.slice A2 cls.length c2)).drew) :=
                ((((BelS.refl _ wr).setCell (S := fun k => k = Bh + 1) ⟨Bh + 1, 0, none⟩ _ rfl).setCell ⟨Bh + 1, 1, none⟩ _ rfl).setCell ⟨Bh + 1, 2, none⟩ _ rfl).setCell ⟨Bh + 1, 3, none⟩ _ rfl |>.drew
              have yf : Bel D w (((((wr.setCell ⟨Bh + 1, 0, none⟩ (.int .i64 ev)).setCell ⟨Bh + 1, 1, none⟩ (.slice A1 bl.length c1)).setCell ⟨Bh + 1, 2, none⟩ (.int .i64 wi)).setCell ⟨Bh + 1, 3, none⟩ (.slice A2 cls.length c2)).drew) :=
                (y6.then_ hbs (fun k hk e => by have := HBh.out; omega)).then_ x9 (fun k hk e => by have := HBh.out; omega)
              have hclaims : Claims (((((wr.setCell ⟨Bh + 1, 0, none⟩ (.int .i64 ev)).setCell ⟨Bh + 1, 1, none⟩ (.slice A1 bl.length c1)).setCell ⟨Bh + 1, 2, none⟩ (.int .i64 wi)).setCell ⟨Bh + 1, 3, none⟩ (.slice A2 cls.length c2)).drew) A2 cls :=
                ⟨xs, x9.rd (Rd.of_own hown) hclb, (HCP.out.belS x9 (fun p hp e => by have := hp.1; omega)).toC⟩
              go_wp2
              refine bodyPost_ret (v := .tuple #[.agg #[.int .i64 ev, .slice A1 bl.length c1, .int .i64 wi, .slice A2 cls.length c2], .slice A real.length c3]) ?res rfl
                ⟨_, ⟨ev, bl, wi, cls⟩, real, A, c3, rfl, ⟨A1, c1, A2, c2, rfl, x9.rd hJ hA11, hclaims⟩, x9.rd hRl hAA, by rw [HLO.out]; exact HMade.out, yf, hh.belS x9 (fun k hk => by omega)⟩
              case res =>
                rw [results_cell_tmp rfl]
                go_simp
end Go.Proofs.Ytgnjhaomlbkgcaa
