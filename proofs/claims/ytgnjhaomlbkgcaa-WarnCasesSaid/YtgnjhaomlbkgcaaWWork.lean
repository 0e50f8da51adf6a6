/- The walk of warn.worked: the gaps of a case, by rounds over all bounds that are believed. Printed by my gen/work.py. -/
import Derived.Test.YtgnjhaomlbkgcaaWBel
import Derived.Test.YtgnjhaomlbkgcaaWDesk
import Derived.Test.YtgnjhaomlbkgcaaWChk
import Derived.Test.YtgnjhaomlbkgcaaWGap
import Derived.Deep.WholeRow
namespace Go.Proofs.Ytgnjhaomlbkgcaa
open Go Go.RowKit Go.Shelf
set_option linter.unusedVariables false
set_option linter.unusedSimpArgs false
attribute [local go_sem] Oper.semAt_some

theorem wpListIn_load_cells {F : Fence} {n : Nat} {P : Program} {ops : Array Oper} {rest : List Oper} {o : Oper} {a : Act} {w : World} {Q : Exit → Act → World → Prop} (hgd : o.guard = none) (ty : TypeId) (x : Operand) (ho : o.op = .load ty x)
    (p : Addr) (hx : a.eval x = .pointer (some p)) (cs : List Value) (d : TypeDesc) (h : ∀ j v, cs[j]? = some v → w.cell? (p.add j) = some v)
    (hu : P.underlying ty = some d) (hd : (match d with | .struct _ | .array _ _ => true | _ => false) = true) (hi : (P.info? ty).map (·.size) = some cs.length)
    (hn : wpListIn F n P ops Q rest (a.put o.dst (.agg cs.toArray)) w) : wpListIn F n P ops Q (o :: rest) a w := by
  refine wpListIn_plain hgd fun K hK => ?_
  unfold Oper.wpIn
  refine ⟨?_, ?_⟩
  · simp [Oper.about, ho]
  · rw [Oper.semAt_plain F _ _ (by rw [ho]; intro c hc'; cases hc'), run_load_cells w a.eval ty x ho p hx cs d h hu hd hi]
    exact hK _ _ hn

theorem wpListIn_store_new {F : Fence} {n : Nat} {P : Program} {ops : Array Oper} {rest : List Oper} {o : Oper} {a : Act} {w : World} {Q : Exit → Act → World → Prop} (hgd : o.guard = none) (ty : TypeId) (x y : Operand) (ho : o.op = .store ty x y)
    (w0 : World) (z c' : Array Value) (hw : w = w0.alloc (.cells z ty)) (hx : a.eval x = .pointer (some ⟨w0.heap.size, 0, none⟩)) (hy : a.eval y = .agg c') (hi : (P.info? ty).map (·.size) = some c'.size) (hz : z.size = c'.size) (h1 : c'.all (·.oneCell') = true)
    (hn : wpListIn F n P ops Q rest (a.put o.dst undef) (w0.alloc (.cells c' ty))) : wpListIn F n P ops Q (o :: rest) a w := by
  subst hw
  refine wpListIn_plain hgd fun K hK => ?_
  unfold Oper.wpIn
  refine ⟨?_, ?_⟩
  · simp [Oper.about, ho]
  · rw [Oper.semAt_plain F _ _ (by rw [ho]; intro c hc'; cases hc')]
    unfold execOp
    simp only [ho, hx, hy, Sem.run_bind, run_storeAt_new w0 ty z c' hi hz h1, Result.andThen_ok, Sem.run_pure]
    exact hK _ _ hn

theorem infoGaps : (Try.prog.info? 134).map (·.size) = some 64 := by kernel_rfl
theorem gl_one (g : Mat) : ((gl g).map (Value.int .i64)).toArray.all (·.oneCell') = true := by
  rw [Array.all_eq_true_iff_forall_mem]
  intro u hu
  simp at hu
  obtain ⟨x, _, rfl⟩ := hu
  rfl
/-- The marks that ranges over a function have left among the deferred calls. -/
def Marks (B : Nat) (ds : List Deferred) (W : World) : Prop :=
  ∃ rs : List Nat, ds = rs.map (fun r => { target := .collected r, args := #[] }) ∧ rs.Nodup ∧ ∀ r ∈ rs, B ≤ r ∧ W.heap[r]? = some (.deferred (some []))
theorem Marks.nil (B : Nat) (W : World) : Marks B [] W := ⟨[], rfl, List.nodup_nil, fun r h => by cases h⟩
theorem Marks.bel {B D : Nat} {ds : List Deferred} {W W' : World} (h : Marks B ds W) (hb : Bel D W W') {cs : Array Value} {t : TypeId} {m : Nat × Nat} (hD : W.heap[D]? = some (.cells cs t m)) : Marks B ds W' := by
  obtain ⟨rs, e, hn, hr⟩ := h
  refine ⟨rs, e, hn, fun r hm => ⟨(hr r hm).1, hb.heap (hr r hm).2 (fun e => ?_)⟩⟩
  subst e
  have := (hr r hm).2
  rw [hD] at this
  cases this
theorem Marks.cons {B D : Nat} {ds : List Deferred} {W0 W : World} (h0 : Marks B ds W0) (hb : Bel D W0 W) {cs : Array Value} {t : TypeId} {m : Nat × Nat} (hD : W0.heap[D]? = some (.cells cs t m)) {r : Nat} (hr : W.heap[r]? = some (.deferred (some []))) (hlt : W0.heap.size ≤ r) (hB : B ≤ W0.heap.size) :
    Marks B ({ target := .collected r, args := #[] } :: ds) W := by
  obtain ⟨rs, e, hn, hh⟩ := h0
  refine ⟨r :: rs, by rw [e]; rfl, List.nodup_cons.2 ⟨fun hm => ?_, hn⟩, fun x hx => ?_⟩
  · have := (Array.getElem?_eq_some_iff.1 (hh r hm).2).1
    omega
  · rcases List.mem_cons.1 hx with rfl | hx
    · exact ⟨by omega, hr⟩
    · refine ⟨(hh x hx).1, hb.heap (hh x hx).2 (fun e => ?_)⟩
      subst e
      have := (hh x hx).2
      rw [hD] at this
      cases this

theorem own_desk {β : Type} {D : Nat} {A1 A2 : Option Addr} {c1 c2 : Nat} {c : Cs} (B : Nat) (f : β → Mat) : OwnFrom B (fun s W => Desk W D A1 c1 A2 c2 c (f s)) := fun s X Y row hs hg hrow => by
  unfold Desk at *
  refine (hg.block D (Array.getElem?_eq_some_iff.1 hs).1 (fun e => ?_)).trans hs
  obtain ⟨o, ho, hc⟩ := (hrow D e.symm).2
  rw [hs] at ho; cases ho; cases hc
theorem own_bel {β : Type} {D B : Nat} {w0 : World} (hB : w0.heap.size ≤ B) : OwnFrom B (fun (_ : β) W => Bel D w0 W) := fun _ X Y row hs hg hr =>
  ⟨hs.1.grown hg (Nat.zero_le _) (fun _ _ => Nat.zero_le _), fun k hk hD => (hg.block k (Nat.lt_of_lt_of_le hk hs.size) (fun e => by have := (hr k e.symm).1; omega)).trans (hs.2 k hk hD)⟩
theorem Bel.keepsFrom {D B : Nat} {W W' : World} (h : Bel D W W') {cs : Array Value} {t : TypeId} {m : Nat × Nat} (hD : W.heap[D]? = some (.cells cs t m)) : KeepsFrom B W W' :=
  ⟨h.size, fun k o _ hk ho => h.heap hk (fun e => by subst e; rw [hD] at hk; cases hk; cases ho)⟩
theorem cel_b {B D : Nat} (W : World) (l : Nat) (o o' : Obj) (_ : B ≤ l) (h : W.heap[l]? = some o) (ho : o.isCells = false) (_ : o.isWalk = false) : Cel D W (W.putObj l o') :=
  ⟨(grownBy_putObj' W l o').size, fun _ _ _ hp => cell_kept hp (grownBy_putObj' W l o') (fun r e => by cases e; exact ⟨o, h, ho⟩)⟩
/-- The box of the loop's variable. -/
def BdBox (W : World) (Bx : Nat) (b : Bd) : Prop := W.heap[Bx]? = some (.cells #[.int .i64 b.f, .int .i64 b.t, .int .i64 b.m] 35 (0, 0))
theorem own_bdbox {β : Type} (B Bx : Nat) (b : Bd) : OwnFrom B (fun (_ : β) W => BdBox W Bx b) := fun s X Y row hs hg hrow => by
  unfold BdBox at *
  refine (hg.block Bx (Array.getElem?_eq_some_iff.1 hs).1 (fun e => ?_)).trans hs
  obtain ⟨o, ho, hc⟩ := (hrow Bx e.symm).2
  rw [hs] at ho; cases ho; cases hc
theorem BdBox.cells {W : World} {Bx : Nat} {b : Bd} (h : BdBox W Bx b) : W.cell? ⟨Bx, 0, none⟩ = some (.int .i64 b.f) ∧ W.cell? ⟨Bx, 1, none⟩ = some (.int .i64 b.t) ∧ W.cell? ⟨Bx, 2, none⟩ = some (.int .i64 b.m) := by
  unfold BdBox at h
  refine ⟨?_, ?_, ?_⟩ <;> (rw [cell_of_row W Bx _ _ _ _ h]; rfl)

theorem leaves_marks {F : Fence} {n : Nat} {P : Program} {fn : Func} {tmps : Array Value} {R : Ending → World → Prop} {B : Nat} {u : FrameMode} (hu : u ≠ .run) : ∀ (ds : List Deferred) (W : World), Marks B ds W →
    (∀ W', Below B W W' → (∀ (k : Nat) (cs : Array Value) (t : TypeId) (m : Nat × Nat), W.heap[k]? = some (.cells cs t m) → W'.heap[k]? = some (.cells cs t m)) → LeavesIn F n P fn tmps R [] u W') → LeavesInM F n P fn tmps R ds u W := by
  intro ds
  induction ds with
  | nil => exact fun W _ h => h W (Below.refl _ _) (fun _ _ _ _ h => h)
  | cons d ds ih =>
    intro W hM h
    obtain ⟨rs, e, hn, hr⟩ := hM
    cases rs with
    | nil => cases e
    | cons r rs =>
      simp only [List.map_cons, List.cons.injEq] at e
      obtain ⟨rfl, e2⟩ := e
      have hK := (hr r (by simp)).2
      have hBr := (hr r (by simp)).1
      refine ⟨hu, .inl ⟨_, _, rfl, run_takeDeferred hK, ?_⟩⟩
      refine ih _ ⟨rs, e2, (List.nodup_cons.1 hn).2, fun x hx => ⟨(hr x (by simp [hx])).1, ?_⟩⟩ fun W' hb hc => h W' ?_ ?_
      · rw [World.putObj_heap_other (fun e => (List.nodup_cons.1 hn).1 (by rw [← e]; exact hx))]
        exact (hr x (by simp [hx])).2
      · exact ((Below.refl B W).grown (grownBy_putObj' W r (.deferred none)) (by have := (Array.getElem?_eq_some_iff.1 hK).1; omega) (fun k e => by cases e; omega)).trans hb
      · intro k cs t m hk
        refine hc k cs t m ?_
        rw [World.putObj_heap_other (fun e => by rw [← e, hk] at hK; cases hK)]
        exact hk

set_option maxRecDepth 100000 in
set_option maxHeartbeats 1000000 in
theorem worked_any (v tv fv : Value) (c : Cs) (tf : Int → Bool) (w : World) (htv : tv = .agg #[fv]) (hc : CsR w v c) (hfv : FnP Try.prog fv w IntR anyx tf) (hok : ∀ b ∈ c.all, b.ok) (hlen : c.all.length ≤ 52) (hs : c.sized) :
    Calls Try.prog 113 #[v, tv] w fun e w' => ∃ r, e = .returned r ∧ DeskR w' r c (gapsM tf c) ∧ Ext w w' := by
  obtain ⟨A1, c1, A2, c2, rfl, hB, hC⟩ := hc
  have hfv0 := hfv
  obtain ⟨g, fst, lb, rfl, eg, hcall⟩ := hfv
  subst htv
  refine callsIn_wide (n := 9).1 ?_
  refine callsIn_of_wp_marks Try.func113 rfl trivial ?_ rfl
  simp only [Try.ntmps113, List.size_toArray, List.length_cons, List.length_nil, Nat.reduceAdd, Nat.reduceSub, Array.replicate_succ, Array.replicate_zero, List.push_toArray, List.append_toArray, List.nil_append, List.cons_append]
  gi_wp2
  obtain ⟨W0, hW0⟩ : ∃ W0, (((w.alloc (.cells #[.int .i64 c.ev, .slice A1 c.bs.length c1, .int .i64 c.wi, .slice A2 c.cl.length c2] 26)).alloc (.cells #[.func (.func g) fst lb] 160)).alloc (.cells (dcells A1 c1 A2 c2 c (initTo 0 0)).toArray 136)).alloc (.cells #[.pointer (some ⟨w.heap.size + 1 + 1, 0, none⟩)] 130) = W0 := ⟨_, rfl⟩
  have hcells : (((Try.zeroCells136.setIfInBounds 0 (Value.int IntKind.i64 c.ev)).setIfInBounds 1 (.slice A1 c.bs.length c1)).setIfInBounds 2 (.int .i64 c.wi)).setIfInBounds 3 (.slice A2 c.cl.length c2) = (dcells A1 c1 A2 c2 c (initTo 0 0)).toArray := by
    simp only [dcells, gl_init]
    unfold Try.zeroCells136
    rfl
  rw [hcells, hW0]
  have hD0 : W0.heap[w.heap.size + 1 + 1]? = some (.cells (dcells A1 c1 A2 c2 c (initTo 0 0)).toArray 136 (0, 0)) := by
    rw [← hW0]
    have h1 := World.alloc_heap_new ((w.alloc (.cells #[.int .i64 c.ev, .slice A1 c.bs.length c1, .int .i64 c.wi, .slice A2 c.cl.length c2] 26)).alloc (.cells #[.func (.func g) fst lb] 160)) (.cells (dcells A1 c1 A2 c2 c (initTo 0 0)).toArray 136)
    simp only [World.size_alloc] at h1
    rw [Below.heap_alloc _ _ _ (by simp)]
    exact h1
  have hX0 : Ext w W0 := by rw [← hW0]; exact (((Ext.refl w).alloc _).alloc _ |>.alloc _).alloc _
  have hp0 : W0.cell? ⟨w.heap.size + 1 + 1 + 1, 0, none⟩ = some (.pointer (some ⟨w.heap.size + 1 + 1, 0, none⟩)) := by rw [← hW0]; simp [go_sem]
  have hk0 : W0.cell? ⟨w.heap.size, 0, none⟩ = some (.int .i64 c.ev) := by rw [← hW0]; simp [go_sem]
  have hk1 : W0.cell? ⟨w.heap.size, 1, none⟩ = some (.slice A1 c.bs.length c1) := by rw [← hW0]; simp [go_sem]
  have hk2 : W0.cell? ⟨w.heap.size, 2, none⟩ = some (.int .i64 c.wi) := by rw [← hW0]; simp [go_sem]
  have hk3 : W0.cell? ⟨w.heap.size, 3, none⟩ = some (.slice A2 c.cl.length c2) := by rw [← hW0]; simp [go_sem]
  have ht0 : W0.cell? ⟨w.heap.size + 1, 0, none⟩ = some (.func (.func g) fst lb) := by rw [← hW0]; simp [go_sem]
  clear hW0 hcells
  gi_loopw [15] (fun i wr => ∃ (a : Nat), a ≤ 8 ∧ i = .int .i64 a ∧ Desk wr (w.heap.size + 1 + 1) A1 c1 A2 c2 c (initTo a 0) ∧ Ext w wr ∧ Cel (w.heap.size + 1 + 1) W0 wr) (fun i _ => 8 - (intOf i).toNat)
  case atStart => exact ⟨0, Nat.zero_le _, rfl, hD0, hX0, Cel.refl _ _⟩
  case round =>
    obtain ⟨a, ha, rfl, hd, hx, hcl⟩ := hrel
    have hpp := hcl.cell hp0 (by simp)
    by_cases hlt : a < 8
    · have hlt' : (a : Int) < 8 := by omega
      gi_wp2
      gi_loopw [18] (fun i wr => ∃ (b : Nat), b ≤ 8 ∧ i = .int .i64 b ∧ Desk wr (w.heap.size + 1 + 1) A1 c1 A2 c2 c (initTo a b) ∧ Ext w wr ∧ Cel (w.heap.size + 1 + 1) W0 wr) (fun i _ => 8 - (intOf i).toNat)
      case atStart => exact ⟨0, Nat.zero_le _, rfl, hd, hx, hcl⟩
      case round =>
        obtain ⟨b, hb, rfl, hd, hx, hcl⟩ := hrel
        have hpp := hcl.cell hp0 (by simp)
        by_cases hltb : b < 8
        · have hltb' : (b : Int) < 8 := by omega
          by_cases hab : a = b
          · have hab' : (a : Int) = b := by omega
            gi_wp2
            go_roundw
            case rel => exact ⟨b + 1, by omega, by go_num, hd.init_same hab, hx, hcl⟩
            case measure => simp [intOf]; omega
          · have hab' : ¬ (a : Int) = b := by omega
            have hcell := hd.at_ hlt hltb
            have hfz := hd.frozen (4 + a * 8 + b)
            gi_wp2
            refine ⟨⟨b + 1, by omega, by go_num, hd.init_set hab hlt hltb, hx.setCell (by simp; omega) _, hcl.trans (Cel.setCell _ _ _)⟩, ?_⟩
            simp [intOf]; omega
        · have hltb' : ¬ (b : Int) < 8 := by omega
          gi_wp2
          go_roundw
          case rel => exact ⟨a + 1, by omega, by go_num, hd.init_row (by omega), hx, hcl⟩
          case measure => simp [intOf]; omega
    · have hlt' : ¬ (a : Int) < 8 := by omega
      have hd := hd.init_all (by omega)
      gi_wp2
      have hm0 : Marks w.heap.size [] wr := Marks.nil _ _
      obtain ⟨L, hL⟩ : ∃ L, (belNum tf c).map (·.2) = L := ⟨_, rfl⟩
      have hLok : ∀ b ∈ L, b.ok := fun b hb => hok b (bel_mem' (hL ▸ hb))
      have hLlen : L.length ≤ 52 := by rw [← hL]; exact Nat.le_trans (bel_len' tf c) hlen
      have hs1 : c.all.length ≤ 9223372036854775807 := by omega
      refine wpIn_loop (fun act W => ∃ (kk : Nat) (y8 y10 y11 y34 y35 y36 y37 y38 y39 y40 y41 y42 y43 y44 y45 y46 y47 y48 y49 y50 y51 y52 y53 y54 y55 y56 y57 y58 y59 y60 y61 y62 y63 y64 y65 y66 y67 y68 y69 y70 y71 y72 y73 y74 y75 y76 y77 y78 y79 y80 y81 y82 y83 y84 y85 y86 y87 y88 y89 y90 y91 y92 y93 y94 y95 : Value) (ds : List Deferred) (gg : Mat), act = { tmps := #[.agg #[.int .i64 c.ev, .slice A1 c.bs.length c1, .int .i64 c.wi, .slice A2 c.cl.length c2], .agg #[.func (.func g) fst lb], .pointer (some ⟨w.heap.size, 0, none⟩), .pointer (some ⟨w.heap.size + 1, 0, none⟩), .pointer none, .pointer (some ⟨w.heap.size + 1 + 1 + 1, 0, none⟩), u6, u7, y8, undef, y10, y11, .agg #[.int .i64 c.ev, .slice A1 c.bs.length c1, .int .i64 c.wi, .slice A2 c.cl.length c2], .agg (dcells A1 c1 A2 c2 c (initTo 0 0)).toArray, .pointer (some ⟨w.heap.size + 1 + 1, 0, none⟩), .int .i64 (a : Int), .bool false, u17, u18, u19, u20, u21, u22, u23, u24, u25, u26, u27, u28, u29, u30, u31, u32, .int .i64 (kk : Int), y34, y35, y36, y37, y38, y39, y40, y41, y42, y43, y44, y45, y46, y47, y48, y49, y50, y51, y52, y53, y54, y55, y56, y57, y58, y59, y60, y61, y62, y63, y64, y65, y66, y67, y68, y69, y70, y71, y72, y73, y74, y75, y76, y77, y78, y79, y80, y81, y82, y83, y84, y85, y86, y87, y88, y89, y90, y91, y92, y93, y94, y95, undef], defers := ds } ∧ kk ≤ 8 ∧ Desk W (w.heap.size + 1 + 1) A1 c1 A2 c2 c gg ∧ Ext w W ∧ Cel (w.heap.size + 1 + 1) W0 W ∧ Marks w.heap.size ds W ∧ Low (52 * kk) gg ∧ Eq8 (rnds L (8 - kk) gg) (rnds L 8 init0)) (fun act _ => 8 - (intOf (act.tmps.getD 33 undef)).toNat) ?h0 ?hr
      case h0 => exact ⟨0, _, _, _, _, _, _, _, _, _, _, _, _, _, _, _, _, _, _, _, _, _, _, _, _, _, _, _, _, _, _, _, _, _, _, _, _, _, _, _, _, _, _, _, _, _, _, _, _, _, _, _, _, _, _, _, _, _, _, _, _, _, _, _, _, _, _, init0, rfl, Nat.zero_le _, hd, hx, hcl, hm0, Low.init, Eq8.refl _⟩
      case hr =>
        rintro _ W ⟨kk, y8, y10, y11, y34, y35, y36, y37, y38, y39, y40, y41, y42, y43, y44, y45, y46, y47, y48, y49, y50, y51, y52, y53, y54, y55, y56, y57, y58, y59, y60, y61, y62, y63, y64, y65, y66, y67, y68, y69, y70, y71, y72, y73, y74, y75, y76, y77, y78, y79, y80, y81, y82, y83, y84, y85, y86, y87, y88, y89, y90, y91, y92, y93, y94, y95, ds, gg, rfl, hkk, hd, hx, hcl, hm, hlow, hrn⟩
        dsimp only
        have hpp := hcl.cell hp0 (by simp)
        by_cases hlt : kk < 8
        · have hlt' : (kk : Int) < 8 := by omega
          have k0 := fun o => (Ext.alloc (Ext.refl W) o).cell (hcl.cell hk0 (by simp; omega))
          have k1 := fun o => (Ext.alloc (Ext.refl W) o).cell (hcl.cell hk1 (by simp; omega))
          have k2 := fun o => (Ext.alloc (Ext.refl W) o).cell (hcl.cell hk2 (by simp; omega))
          have k3 := fun o => (Ext.alloc (Ext.refl W) o).cell (hcl.cell hk3 (by simp; omega))
          have kt := fun o => (Ext.alloc (Ext.refl W) o).cell (hcl.cell ht0 (by simp))
          gi_wp2_with (first
            | (refine ⟨trivial, (callsIn_wide.2 (believed_any _ _ _ c _ rfl ⟨g, fst, lb, rfl⟩ A1 A2 c1 c2 rfl)).mono ?_⟩; rintro e w2 ⟨rfl, rfl⟩)
            | (refine wpListIn_load_cells rfl 134 (.tmp 37) rfl ⟨w.heap.size + 1 + 1, 4, none⟩ rfl ((gl gg).map (Value.int .i64)) (.array 8 56) hd.gaps Try.underlying134 rfl (by rw [infoGaps]; simp [gl_len]) ?_)
            | (refine wpListIn_store_new rfl 134 (.tmp 8) (.tmp 38) rfl W _ _ rfl rfl rfl (by rw [infoGaps]; simp [gl_len]) (by simp [gl_len]) (gl_one gg) ?_))
          have hszW := hx.size
          have hDW := hd.lt
          have hdc : W.heap[w.heap.size + 1 + 1]? = some (.cells (dcells A1 c1 A2 c2 c gg).toArray 136 (0, 0)) := hd
          obtain ⟨W1, hW1⟩ : ∃ W1, ((W.alloc (.cells ((gl gg).map (Value.int .i64)).toArray 134)).alloc (.cells #[.int .i64 c.ev, .slice A1 c.bs.length c1, .int .i64 c.wi, .slice A2 c.cl.length c2] 26)).alloc (.cells #[.func (.func g) fst lb] 160) = W1 := ⟨_, rfl⟩
          have hxW1 : Ext W W1 := by rw [← hW1]; exact (((Ext.refl W).alloc _).alloc _).alloc _
          have hsz1 : W1.heap.size = W.heap.size + 3 := by rw [← hW1]; simp
          have hwas : W1.heap[W.heap.size]? = some (.cells ((gl gg).map (Value.int .i64)).toArray 134 (0, 0)) := by
            rw [← hW1, Below.heap_alloc _ _ _ (by simp; omega), Below.heap_alloc _ _ _ (by simp)]
            exact World.alloc_heap_new _ _
          have hq1 : W1.cell? ⟨W.heap.size + 1, 1, none⟩ = some (.slice A1 c.bs.length c1) := by rw [← hW1]; simp [go_sem]
          have hq3 : W1.cell? ⟨W.heap.size + 1, 3, none⟩ = some (.slice A2 c.cl.length c2) := by rw [← hW1]; simp [go_sem]
          have hqt : W1.cell? ⟨W.heap.size + 1 + 1, 0, none⟩ = some (.func (.func g) fst lb) := by rw [← hW1]; simp [go_sem]
          have hbW1 : Bel (w.heap.size + 1 + 1) W W1 := hxW1.bel
          have hd1 := hd.ext hxW1
          have hm1 := hm.bel hbW1 hdc
          have hp1 := hxW1.cell hpp
          have hkw : Kc w W1 := (hx.trans hxW1).kc
          rw [hW1]
          clear hW1 k0 k1 k2 k3 kt
          refine wpIn_rangeFunc_ownH (F := Fence.wide) (n := 9) rfl (by omega) (gf := 149) (lb := #[.pointer (some ⟨W.heap.size + 1, 0, none⟩), .pointer (some ⟨W.heap.size + 1 + 1, 0, none⟩)]) rfl trivial (enters_of Try.func149 (by kernel_rfl) rfl)
            (believed_stops _ (W.heap.size + 1) (W.heap.size + 1 + 1) (w.heap.size + 1 + 1) c tf (.func (.func g) fst lb) w W1 A1 A2 c1 c2 hB hC hfv0 (by omega) (by omega) (by omega) hs1 hs.2.1 hkw (by omega) hq1 hq3 hqt) Cel.trans cel_b (Below.refl _ _) (fun _ => rfl)
            (fun pre W' => Desk W' (w.heap.size + 1 + 1) A1 c1 A2 c2 c (relaxL gg (pre.map (·.1.2))) ∧ Bel (w.heap.size + 1 + 1) W1 W') (fun _ _ _ => False)
            (OwnFrom.and (own_desk _ _) (own_bel (Nat.le_refl _))) (fun _ _ _ _ _ hs _ _ => hs) ⟨hd1, Bel.refl _ _⟩
            (fun x a' W' => ∃ Bx, W1.heap.size ≤ Bx ∧ BdBox W' Bx x.1.2 ∧ a' = { tmps := #[.agg #[.int .i64 c.ev, .slice A1 c.bs.length c1, .int .i64 c.wi, .slice A2 c.cl.length c2], .agg #[.func (.func g) fst lb], .pointer (some ⟨w.heap.size, 0, none⟩), .pointer (some ⟨w.heap.size + 1, 0, none⟩), .pointer none, .pointer (some ⟨w.heap.size + 1 + 1 + 1, 0, none⟩), u6, u7, .pointer (some ⟨W.heap.size, 0, none⟩), undef, .pointer (some ⟨Bx, 0, none⟩), y11, .agg #[.int .i64 c.ev, .slice A1 c.bs.length c1, .int .i64 c.wi, .slice A2 c.cl.length c2], .agg (dcells A1 c1 A2 c2 c (initTo 0 0)).toArray, .pointer (some ⟨w.heap.size + 1 + 1, 0, none⟩), .int .i64 (a : Int), .bool false, u17, u18, u19, u20, u21, u22, u23, u24, u25, u26, u27, u28, u29, u30, u31, u32, .int .i64 (kk : Int), .bool true, .pointer (some ⟨w.heap.size + 1 + 1, 0, none⟩), .pointer (some ⟨w.heap.size + 1 + 1, 0, none⟩), .pointer (some ⟨w.heap.size + 1 + 1, 4, none⟩), .agg ((gl gg).map (Value.int .i64)).toArray, .agg #[.int .i64 c.ev, .slice A1 c.bs.length c1, .int .i64 c.wi, .slice A2 c.cl.length c2], .agg #[.func (.func g) fst lb], .func (.func 149) #[] #[.pointer (some ⟨W.heap.size + 1, 0, none⟩), .pointer (some ⟨W.heap.size + 1 + 1, 0, none⟩)], .int .i64 (x.1.1 : Int), x.1.2.val, y44, y45, y46, y47, y48, y49, y50, y51, y52, y53, y54, y55, y56, y57, y58, y59, y60, y61, y62, y63, y64, y65, y66, y67, y68, y69, y70, y71, y72, y73, y74, y75, y76, y77, y78, y79, y80, y81, y82, y83, y84, y85, y86, y87, y88, y89, y90, y91, y92, y93, y94, y95, undef], defers := [] })
            (fun x a' _ X Y row hs hg hr => by obtain ⟨Bx, h1, h2, h3⟩ := hs; exact ⟨Bx, h1, own_bdbox _ Bx x.1.2 () X Y row h2 hg hr, h3⟩)
            ?assign ?body ?done ?stop
          case assign =>
            rintro l pre x W' K ⟨hi1, hi2⟩ hK
            have hs2 := hi2.size
            obtain ⟨⟨nn, ⟨f, t, m⟩⟩, hx⟩ := x
            simp only [encNB, Bd.val] at *
            gi_wp2
            refine hK _ _ ((KeepsOthers.alloc _ _).from _) (Ext.cel (Ext.alloc (Ext.refl _) _)) ⟨hi1.ext (Ext.alloc (Ext.refl _) _), hi2.trans (Ext.bel (Ext.alloc (Ext.refl _) _))⟩ ⟨W'.heap.size, by omega, World.alloc_heap_new _ _, ?_⟩
            rfl
          case body =>
            rintro l pre x a' W' hl ⟨r, hr⟩ ⟨hd2, hb2⟩ ⟨Bx, hBx, hXb, rfl⟩ hlt2
            obtain ⟨⟨nn, ⟨f, t, m⟩⟩, hx⟩ := x
            have hbL : (⟨f, t, m⟩ : Bd) ∈ L := by rw [← hL]; exact List.mem_map.2 ⟨_, hx, rfl⟩
            have hbk := hLok _ hbL
            have hpL : (pre.map (·.1.2)).length ≤ 52 := by simp only [List.length_map]; have h := hlt2; rw [← hL] at hLlen; simp only [List.length_map] at hLlen; omega
            have hpk : ∀ b ∈ pre.map (·.1.2), b.ok := by
              intro b hb
              obtain ⟨y, _, rfl⟩ := List.mem_map.1 hb
              exact hLok _ (by rw [← hL]; exact List.mem_map.2 ⟨_, y.2, rfl⟩)
            have hlow2 := hlow.relaxL hpk (by omega)
            have hbk2 := hbk
            obtain ⟨⟨hf0, hf8⟩, ⟨ht0', ht8⟩, hm1', hm2'⟩ := hbk2
            simp only at hf0 hf8 ht0' ht8 hm1' hm2'
            obtain ⟨fn, rfl⟩ : ∃ fn : Nat, f = fn := ⟨f.toNat, by omega⟩
            obtain ⟨tn, rfl⟩ : ∃ tn : Nat, t = tn := ⟨t.toNat, by omega⟩
            obtain ⟨G, hG⟩ : ∃ G, relaxL gg (pre.map (·.1.2)) = G := ⟨_, rfl⟩
            have hGn : ∀ q : NB (belNum tf c), q.1.2 = ⟨fn, tn, m⟩ → relaxL gg ((pre ++ [q]).map (·.1.2)) = relax1 G ⟨fn, tn, m⟩ := fun q hq => by
              rw [List.map_append, ← hG, ← hq]; exact relaxL_snoc _ _ _
            rw [hG] at hd2 hlow2
            have hbbW1 := hd1
            gi_wp2
            obtain ⟨W2, hW2⟩ : ∃ W2 : World, W2 = W' := ⟨_, rfl⟩
            subst hW2
            gi_loopw [44] (fun i w3 => ∃ (b : Nat), b ≤ 8 ∧ i = .int .i64 b ∧ Desk w3 (w.heap.size + 1 + 1) A1 c1 A2 c2 c (relaxTo G ⟨fn, tn, m⟩ b) ∧ Bel (w.heap.size + 1 + 1) W2 w3) (fun i _ => 8 - (intOf i).toNat)
            case atStart => exact ⟨0, Nat.zero_le _, rfl, by rw [relaxTo_zero]; exact hd2, Bel.refl _ _⟩
            case round =>
              obtain ⟨b, hb, rfl, hd3, hb3⟩ := hrel
              by_cases hltb : b < 8
              · have hltb' : (b : Int) < 8 := by omega
                have hBxD : Bx ≠ w.heap.size + 1 + 1 := by omega
                obtain ⟨e0, e1, e2⟩ := hXb.cells
                have q0 := hb3.cell e0 hBxD
                have q1 := hb3.cell e1 hBxD
                have q2 := hb3.cell e2 hBxD
                have qp := hb3.cell (hb2.cell hp1 (by simp)) (by simp)
                have qg1 := hd3.at_ hltb (b := fn) (by omega)
                have qg2 := hd3.at_ hltb (b := tn) (by omega)
                rw [relaxTo_row] at qg1 qg2
                have hlo1 := hlow2 b fn hltb (by omega)
                have hlo2 := hlow2 b tn hltb (by omega)
                have hwr : IntKind.i64.wrap (G b fn + m) = G b fn + m := by
                  have hgf1 := hlo1.1
                  have hgf2 := hlo1.2
                  unfold far at hgf2
                  exact IntWalk.i64_in _ ⟨by omega, by omega⟩
                have hfn8 : (fn : Int) < 8 := by omega
                have htn8 : (tn : Int) < 8 := by omega
                gi_wp2
                have FX0 : ∀ w', Ext wr w' → w'.cell? ⟨Bx, 0, none⟩ = some (.int .i64 (fn : Int)) ∧ w'.cell? ⟨Bx, 1, none⟩ = some (.int .i64 (tn : Int)) ∧ w'.cell? ⟨Bx, 2, none⟩ = some (.int .i64 m) ∧ w'.cell? ⟨w.heap.size + 1 + 1 + 1, 0, none⟩ = some (.pointer (some ⟨w.heap.size + 1 + 1, 0, none⟩)) ∧
                    w'.cell? ⟨w.heap.size + 1 + 1, 4 + b * 8 + fn, none⟩ = some (.int .i64 (G b fn)) ∧ w'.cell? ⟨w.heap.size + 1 + 1, 4 + b * 8 + tn, none⟩ = some (.int .i64 (G b tn)) :=
                  fun w' h => ⟨h.cell q0, h.cell q1, h.cell q2, h.cell qp, h.cell qg1, h.cell qg2⟩
                have FX := hid FX0
                clear FX0
                refine wpIn_region_opens Ext (fun w' => Ext wr w') (fun _ => none) (by kernel_rfl) (by kernel_rfl) (fun _ _ h k => h.trans k) (fun i R h => by cases h) (Ext.drew (Ext.refl wr)) ?_
                refine wpM_val ?ua0 rfl rfl Ext.refl (fun w' hD => ?ha0) ?na0
                case ha0 =>
                  obtain ⟨d0, d1, d2, dp, dg1, dg2⟩ := FX.out w' hD.1
                  go_simp; rfl
                simp only [Act.put, List.setIfInBounds_toArray, List.set_cons_succ, List.set_cons_zero, Nat.reduceAdd]
                refine wpM_val ?ua1 rfl rfl Ext.refl (fun w' hD => ?ha1) ?na1
                case ha1 =>
                  obtain ⟨d0, d1, d2, dp, dg1, dg2⟩ := FX.out w' hD.1
                  go_simp; rfl
                simp only [Act.put, List.setIfInBounds_toArray, List.set_cons_succ, List.set_cons_zero, Nat.reduceAdd]
                refine wpM_val ?ua2 rfl rfl Ext.refl (fun w' hD => ?ha2) ?na2
                case ha2 =>
                  obtain ⟨d0, d1, d2, dp, dg1, dg2⟩ := FX.out w' hD.1
                  go_simp; rfl
                simp only [Act.put, List.setIfInBounds_toArray, List.set_cons_succ, List.set_cons_zero, Nat.reduceAdd]
                refine wpM_val ?ua3 rfl rfl Ext.refl (fun w' hD => ?ha3) ?na3
                case ha3 =>
                  obtain ⟨d0, d1, d2, dp, dg1, dg2⟩ := FX.out w' hD.1
                  go_simp; rfl
                simp only [Act.put, List.setIfInBounds_toArray, List.set_cons_succ, List.set_cons_zero, Nat.reduceAdd]
                refine wpM_val ?ua4 rfl rfl Ext.refl (fun w' hD => ?ha4) ?na4
                case ha4 =>
                  obtain ⟨d0, d1, d2, dp, dg1, dg2⟩ := FX.out w' hD.1
                  go_simp; rfl
                simp only [Act.put, List.setIfInBounds_toArray, List.set_cons_succ, List.set_cons_zero, Nat.reduceAdd]
                refine wpM_val ?ua5 rfl rfl Ext.refl (fun w' hD => ?ha5) ?na5
                case ha5 =>
                  obtain ⟨d0, d1, d2, dp, dg1, dg2⟩ := FX.out w' hD.1
                  go_simp; rfl
                simp only [Act.put, List.setIfInBounds_toArray, List.set_cons_succ, List.set_cons_zero, Nat.reduceAdd]
                refine wpM_val ?ua6 rfl rfl Ext.refl (fun w' hD => ?ha6) ?na6
                case ha6 =>
                  obtain ⟨d0, d1, d2, dp, dg1, dg2⟩ := FX.out w' hD.1
                  go_simp; rfl
                simp only [Act.put, List.setIfInBounds_toArray, List.set_cons_succ, List.set_cons_zero, Nat.reduceAdd]
                refine wpM_val ?ua7 rfl rfl Ext.refl (fun w' hD => ?ha7) ?na7
                case ha7 =>
                  obtain ⟨d0, d1, d2, dp, dg1, dg2⟩ := FX.out w' hD.1
                  go_simp; rfl
                simp only [Act.put, List.setIfInBounds_toArray, List.set_cons_succ, List.set_cons_zero, Nat.reduceAdd]
                refine wpM_val ?ua8 rfl rfl Ext.refl (fun w' hD => ?ha8) ?na8
                case ha8 =>
                  obtain ⟨d0, d1, d2, dp, dg1, dg2⟩ := FX.out w' hD.1
                  go_simp; rfl
                simp only [Act.put, List.setIfInBounds_toArray, List.set_cons_succ, List.set_cons_zero, Nat.reduceAdd]
                refine wpM_val ?ua9 rfl rfl Ext.refl (fun w' hD => ?ha9) ?na9
                case ha9 =>
                  obtain ⟨d0, d1, d2, dp, dg1, dg2⟩ := FX.out w' hD.1
                  go_simp; rfl
                simp only [Act.put, List.setIfInBounds_toArray, List.set_cons_succ, List.set_cons_zero, Nat.reduceAdd]
                refine wpM_nil ?_
                intro x9 hx9 hF9
                have hd9 := hd3.ext hx9
                have hb9 := hb3.trans (Ext.bel hx9)
                by_cases hfar : G b fn = 1099511627776
                · have hsk := relaxTo_skip G ⟨fn, tn, m⟩ b (by simpa [far] using hfar)
                  gi_wp2
                  go_roundw
                  case rel => exact ⟨b + 1, by omega, by go_num, by rw [hsk]; exact hd9, hb9⟩
                  case measure => simp [intOf]; omega
                · have hst : relaxTo G ⟨fn, tn, m⟩ (b + 1) = upd (relaxTo G ⟨fn, tn, m⟩ b) b tn (min (G b tn) (G b fn + m)) := relaxTo_set G ⟨fn, tn, m⟩ b (by simpa [far] using hfar)
                  have FX9 : ∀ w', Ext x9 w' → w'.cell? ⟨Bx, 0, none⟩ = some (.int .i64 (fn : Int)) ∧ w'.cell? ⟨Bx, 1, none⟩ = some (.int .i64 (tn : Int)) ∧ w'.cell? ⟨Bx, 2, none⟩ = some (.int .i64 m) ∧ w'.cell? ⟨w.heap.size + 1 + 1 + 1, 0, none⟩ = some (.pointer (some ⟨w.heap.size + 1 + 1, 0, none⟩)) ∧
                      w'.cell? ⟨w.heap.size + 1 + 1, 4 + b * 8 + fn, none⟩ = some (.int .i64 (G b fn)) ∧ w'.cell? ⟨w.heap.size + 1 + 1, 4 + b * 8 + tn, none⟩ = some (.int .i64 (G b tn)) :=
                    fun w' h => FX.out w' (Ext.trans hx9 h)
                  clear FX
                  have FX := hid FX9
                  clear FX9
                  gi_wp2
                  refine wpIn_region_opens_tail Ext (fun w' => Ext x9 w') (fun | 25 => some (fun v W => ∃ B', v = .slice (some ⟨B', 0, none⟩) 1 1 ∧ W.cell? ⟨B', 0, none⟩ = some (.int .i64 (G b fn + m))) | 26 => some (fun v _ => v = .int .i64 (min (G b tn) (G b fn + m))) | _ => none) 31 (by kernel_rfl) (by kernel_rfl) (fun _ _ h k => h.trans k) ?hT (Ext.drew (Ext.refl x9)) ?_
                  case hT =>
                    intro i R hR
                    match i, hR with
                    | 25, hR => cases hR; exact fun _ _ _ ⟨B', e1, e2⟩ k => ⟨B', e1, k.cell e2⟩
                    | 26, hR => cases hR; exact fun _ _ _ h _ => h
                  refine wpM_val ?ub0 rfl rfl Ext.refl (fun w' hD => ?hb0) ?nb0
                  case hb0 =>
                    obtain ⟨d0, d1, d2, dp, dg1, dg2⟩ := FX.out w' hD.1
                    go_simp; rfl
                  simp only [Act.put, List.setIfInBounds_toArray, List.set_cons_succ, List.set_cons_zero, Nat.reduceAdd]
                  refine wpM_val ?ub1 rfl rfl Ext.refl (fun w' hD => ?hb1) ?nb1
                  case hb1 =>
                    obtain ⟨d0, d1, d2, dp, dg1, dg2⟩ := FX.out w' hD.1
                    go_simp; rfl
                  simp only [Act.put, List.setIfInBounds_toArray, List.set_cons_succ, List.set_cons_zero, Nat.reduceAdd]
                  refine wpM_val ?ub2 rfl rfl Ext.refl (fun w' hD => ?hb2) ?nb2
                  case hb2 =>
                    obtain ⟨d0, d1, d2, dp, dg1, dg2⟩ := FX.out w' hD.1
                    go_simp; rfl
                  simp only [Act.put, List.setIfInBounds_toArray, List.set_cons_succ, List.set_cons_zero, Nat.reduceAdd]
                  refine wpM_val ?ub3 rfl rfl Ext.refl (fun w' hD => ?hb3) ?nb3
                  case hb3 =>
                    obtain ⟨d0, d1, d2, dp, dg1, dg2⟩ := FX.out w' hD.1
                    go_simp; rfl
                  simp only [Act.put, List.setIfInBounds_toArray, List.set_cons_succ, List.set_cons_zero, Nat.reduceAdd]
                  refine wpM_val ?ub4 rfl rfl Ext.refl (fun w' hD => ?hb4) ?nb4
                  case hb4 =>
                    obtain ⟨d0, d1, d2, dp, dg1, dg2⟩ := FX.out w' hD.1
                    go_simp; rfl
                  simp only [Act.put, List.setIfInBounds_toArray, List.set_cons_succ, List.set_cons_zero, Nat.reduceAdd]
                  refine wpM_val ?ub5 rfl rfl Ext.refl (fun w' hD => ?hb5) ?nb5
                  case hb5 =>
                    obtain ⟨d0, d1, d2, dp, dg1, dg2⟩ := FX.out w' hD.1
                    go_simp; rfl
                  simp only [Act.put, List.setIfInBounds_toArray, List.set_cons_succ, List.set_cons_zero, Nat.reduceAdd]
                  refine wpM_val ?ub6 rfl rfl Ext.refl (fun w' hD => ?hb6) ?nb6
                  case hb6 =>
                    obtain ⟨d0, d1, d2, dp, dg1, dg2⟩ := FX.out w' hD.1
                    go_simp; rfl
                  simp only [Act.put, List.setIfInBounds_toArray, List.set_cons_succ, List.set_cons_zero, Nat.reduceAdd]
                  refine wpM_val ?ub7 rfl rfl Ext.refl (fun w' hD => ?hb7) ?nb7
                  case hb7 =>
                    obtain ⟨d0, d1, d2, dp, dg1, dg2⟩ := FX.out w' hD.1
                    go_simp; rfl
                  simp only [Act.put, List.setIfInBounds_toArray, List.set_cons_succ, List.set_cons_zero, Nat.reduceAdd]
                  refine wpM_val ?ub8 rfl rfl Ext.refl (fun w' hD => ?hb8) ?nb8
                  case hb8 =>
                    obtain ⟨d0, d1, d2, dp, dg1, dg2⟩ := FX.out w' hD.1
                    go_simp; rfl
                  simp only [Act.put, List.setIfInBounds_toArray, List.set_cons_succ, List.set_cons_zero, Nat.reduceAdd]
                  refine wpM_val ?ub9 rfl rfl Ext.refl (fun w' hD => ?hb9) ?nb9
                  case hb9 =>
                    obtain ⟨d0, d1, d2, dp, dg1, dg2⟩ := FX.out w' hD.1
                    go_simp; rfl
                  simp only [Act.put, List.setIfInBounds_toArray, List.set_cons_succ, List.set_cons_zero, Nat.reduceAdd]
                  refine wpM_val ?ub10 rfl rfl Ext.refl (fun w' hD => ?hb10) ?nb10
                  case hb10 =>
                    obtain ⟨d0, d1, d2, dp, dg1, dg2⟩ := FX.out w' hD.1
                    go_simp; rfl
                  simp only [Act.put, List.setIfInBounds_toArray, List.set_cons_succ, List.set_cons_zero, Nat.reduceAdd]
                  refine wpM_val ?ub11 rfl rfl Ext.refl (fun w' hD => ?hb11) ?nb11
                  case hb11 =>
                    obtain ⟨d0, d1, d2, dp, dg1, dg2⟩ := FX.out w' hD.1
                    go_simp; rfl
                  simp only [Act.put, List.setIfInBounds_toArray, List.set_cons_succ, List.set_cons_zero, Nat.reduceAdd]
                  refine wpM_val ?ub12 rfl rfl Ext.refl (fun w' hD => ?hb12) ?nb12
                  case hb12 =>
                    obtain ⟨d0, d1, d2, dp, dg1, dg2⟩ := FX.out w' hD.1
                    go_simp; rfl
                  simp only [Act.put, List.setIfInBounds_toArray, List.set_cons_succ, List.set_cons_zero, Nat.reduceAdd]
                  refine wpM_val ?ub13 rfl rfl Ext.refl (fun w' hD => ?hb13) ?nb13
                  case hb13 =>
                    obtain ⟨d0, d1, d2, dp, dg1, dg2⟩ := FX.out w' hD.1
                    go_simp; rfl
                  simp only [Act.put, List.setIfInBounds_toArray, List.set_cons_succ, List.set_cons_zero, Nat.reduceAdd]
                  refine wpM_val ?ub14 rfl rfl Ext.refl (fun w' hD => ?hb14) ?nb14
                  case hb14 =>
                    obtain ⟨d0, d1, d2, dp, dg1, dg2⟩ := FX.out w' hD.1
                    go_simp; rfl
                  simp only [Act.put, List.setIfInBounds_toArray, List.set_cons_succ, List.set_cons_zero, Nat.reduceAdd]
                  refine wpM_val ?ub15 rfl rfl Ext.refl (fun w' hD => ?hb15) ?nb15
                  case hb15 =>
                    obtain ⟨d0, d1, d2, dp, dg1, dg2⟩ := FX.out w' hD.1
                    go_simp; rfl
                  simp only [Act.put, List.setIfInBounds_toArray, List.set_cons_succ, List.set_cons_zero, Nat.reduceAdd]
                  refine wpM_val ?ub16 rfl rfl Ext.refl (fun w' hD => ?hb16) ?nb16
                  case hb16 =>
                    obtain ⟨d0, d1, d2, dp, dg1, dg2⟩ := FX.out w' hD.1
                    go_simp; rfl
                  simp only [Act.put, List.setIfInBounds_toArray, List.set_cons_succ, List.set_cons_zero, Nat.reduceAdd]
                  refine wpM_val ?ub17 rfl rfl Ext.refl (fun w' hD => ?hb17) ?nb17
                  case hb17 =>
                    obtain ⟨d0, d1, d2, dp, dg1, dg2⟩ := FX.out w' hD.1
                    go_simp; rfl
                  simp only [Act.put, List.setIfInBounds_toArray, List.set_cons_succ, List.set_cons_zero, Nat.reduceAdd]
                  refine wpM_val ?ub18 rfl rfl Ext.refl (fun w' hD => ?hb18) ?nb18
                  case hb18 =>
                    obtain ⟨d0, d1, d2, dp, dg1, dg2⟩ := FX.out w' hD.1
                    go_simp; rfl
                  simp only [Act.put, List.setIfInBounds_toArray, List.set_cons_succ, List.set_cons_zero, Nat.reduceAdd]
                  refine wpM_val ?ub19 rfl rfl Ext.refl (fun w' hD => ?hb19) ?nb19
                  case hb19 =>
                    obtain ⟨d0, d1, d2, dp, dg1, dg2⟩ := FX.out w' hD.1
                    go_simp; rfl
                  simp only [Act.put, List.setIfInBounds_toArray, List.set_cons_succ, List.set_cons_zero, Nat.reduceAdd]
                  refine wpM_val ?ub20 rfl rfl Ext.refl (fun w' hD => ?hb20) ?nb20
                  case hb20 =>
                    obtain ⟨d0, d1, d2, dp, dg1, dg2⟩ := FX.out w' hD.1
                    go_simp; rfl
                  simp only [Act.put, List.setIfInBounds_toArray, List.set_cons_succ, List.set_cons_zero, Nat.reduceAdd]
                  refine wpM_val ?ub21 rfl rfl Ext.refl (fun w' hD => ?hb21) ?nb21
                  case hb21 =>
                    obtain ⟨d0, d1, d2, dp, dg1, dg2⟩ := FX.out w' hD.1
                    go_simp; rfl
                  simp only [Act.put, List.setIfInBounds_toArray, List.set_cons_succ, List.set_cons_zero, Nat.reduceAdd]
                  refine wpM_val ?ub22 rfl rfl Ext.refl (fun w' hD => ?hb22) ?nb22
                  case hb22 =>
                    obtain ⟨d0, d1, d2, dp, dg1, dg2⟩ := FX.out w' hD.1
                    go_simp; rfl
                  simp only [Act.put, List.setIfInBounds_toArray, List.set_cons_succ, List.set_cons_zero, Nat.reduceAdd]
                  refine wpM_val ?ub23 rfl rfl Ext.refl (fun w' hD => ?hb23) ?nb23
                  case hb23 =>
                    obtain ⟨d0, d1, d2, dp, dg1, dg2⟩ := FX.out w' hD.1
                    go_simp; rfl
                  simp only [Act.put, List.setIfInBounds_toArray, List.set_cons_succ, List.set_cons_zero, Nat.reduceAdd]
                  refine wpM_val ?ub24 rfl rfl Ext.refl (fun w' hD => ?hb24) ?nb24
                  case hb24 =>
                    obtain ⟨d0, d1, d2, dp, dg1, dg2⟩ := FX.out w' hD.1
                    go_simp; rfl
                  simp only [Act.put, List.setIfInBounds_toArray, List.set_cons_succ, List.set_cons_zero, Nat.reduceAdd]
                  refine wpM_op _ rfl rfl (opens_val (fun w' hD => ?hb25)) (fun v25 hv25 => ?nb25)
                  case hb25 =>
                    obtain ⟨d0, d1, d2, dp, dg1, dg2⟩ := FX.out w' hD.1
                    refine ⟨.slice (some ⟨w'.heap.size, 0, none⟩) 1 1, w'.alloc (.cells #[.int .i64 (IntKind.i64.wrap (G b fn + m))] 3), ?_, Ext.alloc (Ext.refl _) _, ⟨_, rfl, by simp [go_sem, hwr]⟩⟩
                    go_simp
                  obtain ⟨_, _, _, B', rfl, _⟩ := hv25
                  simp only [Act.put, List.setIfInBounds_toArray, List.set_cons_succ, List.set_cons_zero, Nat.reduceAdd]
                  refine wpM_op _ rfl rfl (opens_call ?fb26 ?gb26 (fun w' hD => ?hb26) (fun w' hD => ?cb26)) (fun v26 hv26 => ?nb26)
                  case hb26 => go_simp; constructor <;> rfl
                  case cb26 =>
                    obtain ⟨_, B2, e1, e2⟩ := hD.get 25 (by first | kernel_rfl | simp [Region.binds])
                    cases e1
                    refine (least_any (G b tn) (some ⟨B', 0, none⟩) 1 [G b fn + m] w' (.inr ⟨B', 0, rfl, fun j u hu => ?_⟩) (by simp)).mono ?_
                    · cases j with
                      | zero => cases hu; exact e2
                      | succ j => simp at hu
                    · rintro e w2 ⟨rfl, rfl⟩
                      exact ⟨_, rfl, Ext.refl _, rfl⟩
                  obtain ⟨_, _, _, rfl⟩ := hv26
                  simp only [Act.put, List.setIfInBounds_toArray, List.set_cons_succ, List.set_cons_zero, Nat.reduceAdd]
                  refine wpM_val ?ub27 rfl rfl Ext.refl (fun w' hD => ?hb27) ?nb27
                  case hb27 =>
                    obtain ⟨d0, d1, d2, dp, dg1, dg2⟩ := FX.out w' hD.1
                    go_simp; rfl
                  simp only [Act.put, List.setIfInBounds_toArray, List.set_cons_succ, List.set_cons_zero, Nat.reduceAdd]
                  refine wpM_val ?ub28 rfl rfl Ext.refl (fun w' hD => ?hb28) ?nb28
                  case hb28 =>
                    obtain ⟨d0, d1, d2, dp, dg1, dg2⟩ := FX.out w' hD.1
                    go_simp; rfl
                  simp only [Act.put, List.setIfInBounds_toArray, List.set_cons_succ, List.set_cons_zero, Nat.reduceAdd]
                  refine wpM_val ?ub29 rfl rfl Ext.refl (fun w' hD => ?hb29) ?nb29
                  case hb29 =>
                    obtain ⟨d0, d1, d2, dp, dg1, dg2⟩ := FX.out w' hD.1
                    go_simp; rfl
                  simp only [Act.put, List.setIfInBounds_toArray, List.set_cons_succ, List.set_cons_zero, Nat.reduceAdd]
                  refine wpM_val ?ub30 rfl rfl Ext.refl (fun w' hD => ?hb30) ?nb30
                  case hb30 =>
                    obtain ⟨d0, d1, d2, dp, dg1, dg2⟩ := FX.out w' hD.1
                    go_simp; rfl
                  simp only [Act.put, List.setIfInBounds_toArray, List.set_cons_succ, List.set_cons_zero, Nat.reduceAdd]
                  refine wpM_nil ?_
                  intro w9 hw9 hF9
                  have hdz := hd9.ext hw9
                  have hz1 := hdz.at_ hltb (b := tn) (by omega)
                  have hz2 := hdz.frozen (4 + b * 8 + tn)
                  simp only [List.drop_succ_cons, List.drop_zero]
                  gi_wp2
                  go_roundw
                  case rel => exact ⟨b + 1, by omega, by go_num, by rw [hst]; exact hdz.set hltb (by omega) _, (hb9.trans (Ext.bel hw9)).setCell _ _⟩
                  case measure => simp [intOf]; omega
              · have hltb' : ¬ (b : Int) < 8 := by omega
                have hd4 : Desk wr (w.heap.size + 1 + 1) A1 c1 A2 c2 c (relax1 G ⟨fn, tn, m⟩) := hd3.congr (gl_congr (by rw [show b = 8 by omega]; exact relaxTo_all _ _))
                gi_wp2
                refine ⟨hb3.keepsFrom hd2, hb3.cel, ?_, hb2.trans hb3⟩
                rw [hGn _ rfl]
                exact hd4
          case done =>
            rintro D3 xs W3 hD3 hxs ⟨hd3, hb3⟩ hK3
            have hm3 := hm1.cons hb3 hd1 hK3 hD3 (by omega)
            have e3 : xs.map (·.1.2) = L := by
              rw [← hL]
              have h := congrArg (List.map (·.2)) hxs
              rw [List.map_map] at h
              exact h
            rw [e3] at hd3
            have qp3 := hb3.cell hp1 (by simp)
            have hwas3 := hb3.heap hwas (by omega)
            gi_wp2
            have FX0 : ∀ w', Ext W3 w' → w'.cell? ⟨w.heap.size + 1 + 1 + 1, 0, none⟩ = some (.pointer (some ⟨w.heap.size + 1 + 1, 0, none⟩)) ∧ (∀ j v, ((gl gg).map (Value.int .i64))[j]? = some v → w'.cell? ((⟨W.heap.size, 0, none⟩ : Addr).add j) = some v) ∧
                (∀ j v, ((gl (relaxL gg L)).map (Value.int .i64))[j]? = some v → w'.cell? ((⟨w.heap.size + 1 + 1, 4, none⟩ : Addr).add j) = some v) := fun w' h => ⟨h.cell qp3, fun j v hj => by
                  rw [Addr.add_lit, Nat.zero_add, cell_of_row w' W.heap.size j _ _ _ ((Below.block h _ (Array.getElem?_eq_some_iff.1 hwas3).1).trans hwas3)]
                  simpa using hj, (hd3.ext h).gaps⟩
            have FX := hid FX0
            clear FX0
            refine wpIn_wide.2 ?_
            refine wp_region_opens Ext (fun w' => Ext W3 w') (fun _ => none) (by kernel_rfl) (by kernel_rfl) (fun _ _ h k => h.trans k) (fun i R h => by cases h) (Ext.drew (Ext.refl W3)) ?_
            refine wpM_val ?uc0 rfl rfl Ext.refl (fun w' hD => ?hc0) ?nc0
            case hc0 =>
              refine run_load_cells w' _ 134 (.tmp 8) ?_ ⟨W.heap.size, 0, none⟩ ?_ ((gl gg).map (Value.int .i64)) (.array 8 56) (FX.out w' hD.1).2.1 Try.underlying134 rfl (by rw [infoGaps]; simp [gl_len])
              · rfl
              · rfl
            simp only [Act.put, List.setIfInBounds_toArray, List.set_cons_succ, List.set_cons_zero, Nat.reduceAdd]
            refine wpM_val ?uc1 rfl rfl Ext.refl (fun w' hD => ?hc1) ?nc1
            case hc1 =>
              obtain ⟨dp, dg1, dg2⟩ := FX.out w' hD.1
              go_simp; rfl
            simp only [Act.put, List.setIfInBounds_toArray, List.set_cons_succ, List.set_cons_zero, Nat.reduceAdd]
            refine wpM_val ?uc2 rfl rfl Ext.refl (fun w' hD => ?hc2) ?nc2
            case hc2 =>
              obtain ⟨dp, dg1, dg2⟩ := FX.out w' hD.1
              go_simp; rfl
            simp only [Act.put, List.setIfInBounds_toArray, List.set_cons_succ, List.set_cons_zero, Nat.reduceAdd]
            refine wpM_val ?uc3 rfl rfl Ext.refl (fun w' hD => ?hc3) ?nc3
            case hc3 =>
              obtain ⟨dp, dg1, dg2⟩ := FX.out w' hD.1
              go_simp; rfl
            simp only [Act.put, List.setIfInBounds_toArray, List.set_cons_succ, List.set_cons_zero, Nat.reduceAdd]
            refine wpM_val ?uc4 rfl rfl Ext.refl (fun w' hD => ?hc4) ?nc4
            case hc4 =>
              refine run_load_cells w' _ 134 (.tmp 92) ?_ ⟨w.heap.size + 1 + 1, 4, none⟩ ?_ ((gl (relaxL gg L)).map (Value.int .i64)) (.array 8 56) (FX.out w' hD.1).2.2 Try.underlying134 rfl (by rw [infoGaps]; simp [gl_len])
              · rfl
              · rfl
            simp only [Act.put, List.setIfInBounds_toArray, List.set_cons_succ, List.set_cons_zero, Nat.reduceAdd]
            refine wpM_val (.bool (gl gg == gl (relaxL gg L))) rfl rfl Ext.refl (fun w' hD => ?hc5) ?nc5
            case hc5 =>
              refine run_eql_op w' _ 134 134 (.tmp 89) (.tmp 93) ?_ _ _ ?_ ?_ _ Try.eqGuardType134 (run_equalIn_arr2 w' 9997 134 56 3 .i64 8 8 Try.underlying134 Try.underlying56 (by kernel_rfl) (by kernel_rfl) Try.underlying3 (by kernel_rfl) (by kernel_rfl) _ _ (gl_len gg) (gl_len (relaxL gg L)))
              · rfl
              · rfl
              · rfl
            simp only [Act.put, List.setIfInBounds_toArray, List.set_cons_succ, List.set_cons_zero, Nat.reduceAdd]
            refine wpM_nil ?_
            intro w9 hw9 hF9
            have hd9 := hd3.ext hw9
            have hb9 := hb3.trans (Ext.bel hw9)
            have hm9 := hm3.bel (Ext.bel hw9) hd3
            have hx9 : Ext w w9 := (hx.trans hxW1).then_bel (by omega) hb9
            have hcl9 : Cel (w.heap.size + 1 + 1) W0 w9 := (hcl.trans hxW1.cel).trans hb9.cel
            have hp9 := hcl9.cell hp0 (by simp)
            by_cases hEq : gl gg = gl (relaxL gg L)
            · have hfin : Eq8 (relaxL gg L) (rnds L 8 init0) := by
                have h1 : Eq8 (relaxL gg L) gg := fun a b ha hb => gl_eq hEq.symm a b ha hb
                exact h1.trans ((rnds_fix hLok h1 _).symm.trans hrn)
              have hbq : (gl gg == gl (relaxL gg L)) = true := by simpa using hEq
              rw [hbq]
              gi_wp2
              refine leaves_marks (by simp) _ _ hm9 fun W' hb hc => ?_
              have hxx : Ext w W' := Below.trans hx9 hb
              have hdd : Desk W' (w.heap.size + 1 + 1) A1 c1 A2 c2 c (gapsM tf c) := by
                unfold gapsM; rw [hL]
                exact (show Desk W' _ _ _ _ _ _ _ from hc _ _ _ _ hd9).congr (gl_congr hfin)
              first
                | exact ⟨_, results_tmp rfl _ _ _, _, rfl, ⟨_, A1, c1, A2, c2, rfl, hdd, hB.ext hxx, hC.ext hxx⟩, hxx⟩
                | exact ⟨_, results_tmp rfl _ _ _, ⟨_, A1, c1, A2, c2, rfl, hdd, hB.ext hxx, hC.ext hxx⟩, hxx⟩
            · have hbq : (gl gg == gl (relaxL gg L)) = false := by simpa using hEq
              rw [hbq]
              gi_wp2
              refine ⟨⟨kk + 1, _, _, _, _, _, _, _, _, _, _, _, _, _, _, _, _, _, _, _, _, _, _, _, _, _, _, _, _, _, _, _, _, _, _, _, _, _, _, _, _, _, _, _, _, _, _, _, _, _, _, _, _, _, _, _, _, _, _, _, _, _, _, _, _, _, _, relaxL gg L, rfl, by omega, hd9, hx9, hcl9, hm9, (hlow.relaxL hLok (by omega)).mono (by omega), ?_⟩, ?_⟩
              · rw [show 8 - kk = (8 - (kk + 1)) + 1 by omega] at hrn
                exact hrn
              · simp [intOf]; omega
          case stop =>
            rintro D c pre W _ _ h _
            exact h.elim
        · have hlt' : ¬ (kk : Int) < 8 := by omega
          have hfin : Eq8 gg (rnds L 8 init0) := by
            rw [show 8 - kk = 0 by omega] at hrn
            exact hrn
          gi_wp2
          refine leaves_marks (by simp) _ _ hm fun W' hb hc => ?_
          have hxx : Ext w W' := Below.trans hx hb
          have hdd : Desk W' (w.heap.size + 1 + 1) A1 c1 A2 c2 c (gapsM tf c) := by
            unfold gapsM; rw [hL]
            exact (show Desk W' _ _ _ _ _ _ _ from hc _ _ _ _ hd).congr (gl_congr hfin)
          first
            | exact ⟨_, results_tmp rfl _ _ _, _, rfl, ⟨_, A1, c1, A2, c2, rfl, hdd, hB.ext hxx, hC.ext hxx⟩, hxx⟩
            | exact ⟨_, results_tmp rfl _ _ _, ⟨_, A1, c1, A2, c2, rfl, hdd, hB.ext hxx, hC.ext hxx⟩, hxx⟩
end Go.Proofs.Ytgnjhaomlbkgcaa
