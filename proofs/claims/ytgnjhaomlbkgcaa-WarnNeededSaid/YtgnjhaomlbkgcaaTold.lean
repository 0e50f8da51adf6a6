/- The walk of Told. -/
import Derived.Test.YtgnjhaomlbkgcaaCopy
import Derived.Test.YtgnjhaomlbkgcaaTwin
import Derived.Test.YtgnjhaomlbkgcaaToldP
import Derived.Test.YtgnjhaomlbkgcaaTurn
import Derived.Laws.ResultCell
namespace Go.Proofs.Ytgnjhaomlbkgcaa
open Go Go.RowKit Go.Shelf
set_option linter.unusedVariables false
set_option linter.unusedSimpArgs false

/-- A case whose rows are new. -/
def FreshCs (w : World) (B : Nat) (v : Value) (c : Cs) : Prop :=
  ∃ A1 c1 A2 c2 xs, v = .agg #[.int .i64 c.ev, .slice A1 c.bs.length c1, .int .i64 c.wi, .slice A2 c.cl.length c2] ∧ w.ownsRow B 35 3 (.slice A1 c.bs.length c1) c.bs.length (bcells c.bs) ∧
    w.ownsRow B 37 2 (.slice A2 c.cl.length c2) c.cl.length xs ∧ ClW w B xs c.cl
theorem FreshCs.toR {w : World} {B : Nat} {v : Value} {c : Cs} (h : FreshCs w B v c) : CsR w v c := by
  obtain ⟨A1, c1, A2, c2, xs, rfl, h1, h2, h3⟩ := h
  exact ⟨A1, c1, A2, c2, rfl, Rd.of_own h1, xs, Rd.of_own h2, h3.toC⟩
def zeroCs : Value := .agg #[.int .i64 0, .slice none 0 0, .int .i64 0, .slice none 0 0]
def ToldPost (w : World) (c : Cs) (b : Bd) (e : Ending) (w' : World) : Prop :=
  ∃ r, e = .returned (.tuple #[r, .int .i64 (toldBC c b)]) ∧ Ext w w' ∧ (toldBC c b ≠ 0 → r = zeroCs) ∧ (toldBC c b = 0 → FreshCs w' w.heap.size r (c.add b))

theorem wpList_make_some {P : Program} (w : World) {ops : Array Oper} {rest : List Oper} {o : Oper} {a : Act} {Q : Exit → Act → World → Prop}
    (hg : o.guard = none) (l c : Operand) (t : TypeId) (hop : o.op = Op.makeSlice t l c)
    (base : Nat) (e : TypeId) (i : TypeInfo) (z : Value) (size : Nat) (h1 : P.underlying t = some (.slice e)) (h2 : P.info? e = some i) (h3 : i.zero = some z) (h4 : i.size = size)
    (kl kc : IntKind) (L C : Int) (n : Nat) (hl : a.eval l = .int kl L) (hc : a.eval c = .int kc C) (hL : L = (n : Int)) (hC : C = (n : Int)) (b2 : i.bytes * n ≤ 281474976710656) (b3 : n ≤ maxLen) (b4 : base ≤ w.heap.size)
    (hK : ∀ w' xs, w'.ownsRow base e size (.slice (some ⟨w.heap.size, 0, none⟩) n n) n xs → w.grownBy w' none → wpList P ops Q rest (a.put o.dst (.slice (some ⟨w.heap.size, 0, none⟩) n n)) w') :
    wpList P ops Q (o :: rest) a w :=
  wpList_make_full w hg l c t hop base e i z size h1 h2 h3 h4 kl kc L C n hl hc hL hC b2 b3 b4 fun w' h1 h2 => hK w' _ h1 h2
theorem manyOK_len {c : Cs} (h : manyOK c = true) : c.bs.length ≤ 20 ∧ c.cl.length ≤ 8 ∧ ∀ x ∈ c.cl, x.bs.length ≤ 4 := by
  unfold manyOK eachOK at h
  simp only [Bool.and_eq_true, List.all_eq_true, decide_eq_true_eq] at h
  exact ⟨h.1.1.1.2, h.1.2, fun x hx => h.2 x hx⟩
set_option maxRecDepth 100000 in
set_option maxHeartbeats 4000000 in
theorem toldb_any (v : Value) (c : Cs) (b : Bd) (w : World) (hc : CsR w v c) (hs : c.sized) :
    Calls Try.prog 50 #[v, b.val] w (ToldPost w c b) := by
  have hc' := hc
  obtain ⟨A1, c1, A2, c2, rfl, hB, hC⟩ := hc
  obtain ⟨f, t, m⟩ := b
  obtain ⟨T, hT⟩ : ∃ T, toldBC c ⟨f, t, m⟩ = T := ⟨_, rfl⟩
  have HT := hid hT
  unfold toldBC at hT
  have HT2 := hid hT
  clear hT
  show Calls _ _ #[_, .agg #[.int .i64 f, .int .i64 t, .int .i64 m]] w _
  go_enter Try.func50, Try.ntmps50
  go_wp2_with fail
  have x0 := Ext.alloc (Ext.alloc (Ext.alloc (Ext.refl w) (.cells #[.int .i64 c.ev, .slice A1 c.bs.length c1, .int .i64 c.wi, .slice A2 c.cl.length c2] 26)) (.cells #[.int .i64 f, .int .i64 t, .int .i64 m] 35)) (.cells #[.int .i64 0, .slice none 0 0, .int .i64 0, .slice none 0 0] 26)
  have hz0 : (((w.alloc (.cells #[.int .i64 c.ev, .slice A1 c.bs.length c1, .int .i64 c.wi, .slice A2 c.cl.length c2] 26)).alloc (.cells #[.int .i64 f, .int .i64 t, .int .i64 m] 35)).alloc (.cells #[.int .i64 0, .slice none 0 0, .int .i64 0, .slice none 0 0] 26)).heap.size = w.heap.size + 3 := by simp
  have GC : (((w.alloc (.cells #[.int .i64 c.ev, .slice A1 c.bs.length c1, .int .i64 c.wi, .slice A2 c.cl.length c2] 26)).alloc (.cells #[.int .i64 f, .int .i64 t, .int .i64 m] 35)).alloc (.cells #[.int .i64 0, .slice none 0 0, .int .i64 0, .slice none 0 0] 26)).heap[w.heap.size]? = some (.cells #[.int .i64 c.ev, .slice A1 c.bs.length c1, .int .i64 c.wi, .slice A2 c.cl.length c2] 26 (0, 0)) := (Below.block (Ext.alloc (Ext.alloc (Ext.refl (w.alloc (.cells #[.int .i64 c.ev, .slice A1 c.bs.length c1, .int .i64 c.wi, .slice A2 c.cl.length c2] 26))) (.cells #[.int .i64 f, .int .i64 t, .int .i64 m] 35)) (.cells #[.int .i64 0, .slice none 0 0, .int .i64 0, .slice none 0 0] 26)) w.heap.size (by simp)).trans (heap_alloc_new w _)
  have GB : (((w.alloc (.cells #[.int .i64 c.ev, .slice A1 c.bs.length c1, .int .i64 c.wi, .slice A2 c.cl.length c2] 26)).alloc (.cells #[.int .i64 f, .int .i64 t, .int .i64 m] 35)).alloc (.cells #[.int .i64 0, .slice none 0 0, .int .i64 0, .slice none 0 0] 26)).heap[w.heap.size + 1]? = some (.cells #[.int .i64 f, .int .i64 t, .int .i64 m] 35 (0, 0)) := by
    have h := heap_alloc_new (w.alloc (.cells #[.int .i64 c.ev, .slice A1 c.bs.length c1, .int .i64 c.wi, .slice A2 c.cl.length c2] 26)) (.cells #[.int .i64 f, .int .i64 t, .int .i64 m] 35)
    rw [show (w.alloc (.cells #[.int .i64 c.ev, .slice A1 c.bs.length c1, .int .i64 c.wi, .slice A2 c.cl.length c2] 26)).heap.size = w.heap.size + 1 by simp] at h
    exact (Below.block (Ext.alloc (Ext.refl ((w.alloc (.cells #[.int .i64 c.ev, .slice A1 c.bs.length c1, .int .i64 c.wi, .slice A2 c.cl.length c2] 26)).alloc (.cells #[.int .i64 f, .int .i64 t, .int .i64 m] 35))) (.cells #[.int .i64 0, .slice none 0 0, .int .i64 0, .slice none 0 0] 26)) (w.heap.size + 1) (by simp)).trans h
  have GZ : (((w.alloc (.cells #[.int .i64 c.ev, .slice A1 c.bs.length c1, .int .i64 c.wi, .slice A2 c.cl.length c2] 26)).alloc (.cells #[.int .i64 f, .int .i64 t, .int .i64 m] 35)).alloc (.cells #[.int .i64 0, .slice none 0 0, .int .i64 0, .slice none 0 0] 26)).heap[w.heap.size + 1 + 1]? = some (.cells #[.int .i64 0, .slice none 0 0, .int .i64 0, .slice none 0 0] 26 (0, 0)) := by
    have h := heap_alloc_new ((w.alloc (.cells #[.int .i64 c.ev, .slice A1 c.bs.length c1, .int .i64 c.wi, .slice A2 c.cl.length c2] 26)).alloc (.cells #[.int .i64 f, .int .i64 t, .int .i64 m] 35)) (.cells #[.int .i64 0, .slice none 0 0, .int .i64 0, .slice none 0 0] 26)
    rwa [show ((w.alloc (.cells #[.int .i64 c.ev, .slice A1 c.bs.length c1, .int .i64 c.wi, .slice A2 c.cl.length c2] 26)).alloc (.cells #[.int .i64 f, .int .i64 t, .int .i64 m] 35)).heap.size = w.heap.size + 1 + 1 by simp] at h
  generalize hW0 : (((w.alloc (.cells #[.int .i64 c.ev, .slice A1 c.bs.length c1, .int .i64 c.wi, .slice A2 c.cl.length c2] 26)).alloc (.cells #[.int .i64 f, .int .i64 t, .int .i64 m] 35)).alloc (.cells #[.int .i64 0, .slice none 0 0, .int .i64 0, .slice none 0 0] 26)) = W0 at x0 hz0 GC GB GZ ⊢
  clear hW0
  refine (check_any _ c _ (hc'.ext x0) hs).mono ?_
  rintro e w1 ⟨rfl, hx1⟩
  have GC1 := (Below.block hx1 _ (by omega)).trans GC
  have GB1 := (Below.block hx1 _ (by omega)).trans GB
  have GZ1 := (Below.block hx1 _ (by omega)).trans GZ
  have X1 := x0.trans hx1
  have hz1 := hx1.size
  clear GC GB GZ x0 hx1
  obtain ⟨K, hK⟩ : ∃ K, checkC c = K := ⟨_, rfl⟩
  have HK := hid hK
  rw [hK]
  rw [hK] at HT2
  clear hK
  by_cases k0 : K ≠ 0
  · have HTK : Hid (T = K) := by
      have h := HT2.out
      rw [if_pos k0] at h
      exact h.symm
    have HTN : Hid (T ≠ 0) := by unfold Hid; rw [HTK.out]; exact k0
    have z0 := block_cell (i := 0) GZ1
    have z1 := block_cell (i := 1) GZ1
    have z2 := block_cell (i := 2) GZ1
    have z3 := block_cell (i := 3) GZ1
    have f0 := block_free (i := 0) GZ1
    have f1 := block_free (i := 1) GZ1
    have f2 := block_free (i := 2) GZ1
    have f3 := block_free (i := 3) GZ1
    simp only [List.getElem?_toArray, List.getElem?_cons_zero, List.getElem?_cons_succ] at z0 z1 z2 z3
    clear GC1 GB1 GZ1
    go_wp2
    refine bodyPost_ret (v := .tuple #[zeroCs, .int .i64 T]) ?_ rfl ⟨zeroCs, by rw [HT.out], (((X1.setCell (by simp; omega) _).setCell (by simp; omega) _).setCell (by simp; omega) _).setCell (by simp; omega) _, fun _ => rfl, fun h => absurd (HT.out.symm.trans h) HTN.out⟩
    rw [results_cell_tmp rfl]
    simp only [HTK.out]
    go_simp
    rfl
  have h2 := HT2.out
  rw [if_neg k0] at h2
  clear HT2
  have HT2 := hid h2
  have e0 : K = 0 := by simpa using k0
  have hck := HK.out.trans e0
  obtain ⟨ev1, ev8⟩ := checkC_ev hck
  subst e0
  clear h2 k0
  have c0 := block_cell (i := 0) GC1
  have c1' := block_cell (i := 1) GC1
  have c2' := block_cell (i := 2) GC1
  have c3 := block_cell (i := 3) GC1
  have b0 := block_cell (i := 0) GB1
  have b1 := block_cell (i := 1) GB1
  have b2 := block_cell (i := 2) GB1
  simp only [List.getElem?_toArray, List.getElem?_cons_zero, List.getElem?_cons_succ] at c0 c1' c2' c3 b0 b1 b2
  go_wp2_with fail
  have xo := Ext.alloc (Ext.refl w1) (.cells #[.int .i64 f, .int .i64 t, .int .i64 m] 35)
  have n0 := heap_alloc_new w1 (.cells #[.int .i64 f, .int .i64 t, .int .i64 m] 35)
  have hBo : Bounds (w1.alloc (.cells #[.int .i64 f, .int .i64 t, .int .i64 m] 35)) (some ⟨w1.heap.size, 0, none⟩) [⟨f, t, m⟩] := rd_block n0
  refine (bounds_any _ c _ _ [⟨f, t, m⟩] _ (hc'.ext (X1.trans xo)) ev1 ev8 hBo (by simp)).mono ?_
  rintro e w2 ⟨rfl, hx2⟩
  have x12 := xo.trans hx2
  have GC2 := (Below.block x12 _ (by omega)).trans GC1
  have GB2 := (Below.block x12 _ (by omega)).trans GB1
  have GZ2 := (Below.block x12 _ (by omega)).trans GZ1
  have X2 := X1.trans x12
  have hz2 := x12.size
  clear GC1 GB1 GZ1 X1 x12 hx2 hBo n0 xo c0 c1' c2' c3 b0 b1 b2
  obtain ⟨K, hK⟩ : ∃ K, bdsC c.ev [⟨f, t, m⟩] = K := ⟨_, rfl⟩
  have HK2 := hid hK
  rw [hK]
  rw [hK] at HT2
  clear hK
  by_cases k0 : K ≠ 0
  · have HTK : Hid (T = K) := by
      have h := HT2.out
      rw [if_pos k0] at h
      exact h.symm
    have HTN : Hid (T ≠ 0) := by unfold Hid; rw [HTK.out]; exact k0
    have z0 := block_cell (i := 0) GZ2
    have z1 := block_cell (i := 1) GZ2
    have z2 := block_cell (i := 2) GZ2
    have z3 := block_cell (i := 3) GZ2
    have f0 := block_free (i := 0) GZ2
    have f1 := block_free (i := 1) GZ2
    have f2 := block_free (i := 2) GZ2
    have f3 := block_free (i := 3) GZ2
    simp only [List.getElem?_toArray, List.getElem?_cons_zero, List.getElem?_cons_succ] at z0 z1 z2 z3
    clear GC2 GB2 GZ2
    go_wp2
    refine bodyPost_ret (v := .tuple #[zeroCs, .int .i64 T]) ?_ rfl ⟨zeroCs, by rw [HT.out], (((X2.setCell (by simp; omega) _).setCell (by simp; omega) _).setCell (by simp; omega) _).setCell (by simp; omega) _, fun _ => rfl, fun h => absurd (HT.out.symm.trans h) HTN.out⟩
    rw [results_cell_tmp rfl]
    simp only [HTK.out]
    go_simp
    rfl
  have h2 := HT2.out
  rw [if_neg k0] at h2
  clear HT2
  have HT2 := hid h2
  have e0 : K = 0 := by simpa using k0
  subst e0
  clear h2 k0
  have b0 := block_cell (i := 0) GB2
  have b1 := block_cell (i := 1) GB2
  have b2 := block_cell (i := 2) GB2
  simp only [List.getElem?_toArray, List.getElem?_cons_zero, List.getElem?_cons_succ] at b0 b1 b2
  by_cases k0 : f = t
  · have HTK : Hid (T = 5) := by
      have h := HT2.out
      rw [if_pos k0] at h
      exact h.symm
    have HTN : Hid (T ≠ 0) := by unfold Hid; rw [HTK.out]; decide
    have z0 := block_cell (i := 0) GZ2
    have z1 := block_cell (i := 1) GZ2
    have z2 := block_cell (i := 2) GZ2
    have z3 := block_cell (i := 3) GZ2
    have f0 := block_free (i := 0) GZ2
    have f1 := block_free (i := 1) GZ2
    have f2 := block_free (i := 2) GZ2
    have f3 := block_free (i := 3) GZ2
    simp only [List.getElem?_toArray, List.getElem?_cons_zero, List.getElem?_cons_succ] at z0 z1 z2 z3
    clear GC2 GB2 GZ2
    go_wp2
    refine bodyPost_ret (v := .tuple #[zeroCs, .int .i64 T]) ?_ rfl ⟨zeroCs, by rw [HT.out], (((X2.setCell (by simp; omega) _).setCell (by simp; omega) _).setCell (by simp; omega) _).setCell (by simp; omega) _, fun _ => rfl, fun h => absurd (HT.out.symm.trans h) HTN.out⟩
    rw [results_cell_tmp rfl]
    simp only [HTK.out]
    go_simp
    rfl
  have h2 := HT2.out
  rw [if_neg k0] at h2
  clear HT2
  have HT2 := hid h2
  clear h2
  have c0 := block_cell (i := 0) GC2
  have c1' := block_cell (i := 1) GC2
  have c2' := block_cell (i := 2) GC2
  have c3 := block_cell (i := 3) GC2
  simp only [List.getElem?_toArray, List.getElem?_cons_zero, List.getElem?_cons_succ] at c0 c1' c2' c3
  by_cases k1 : c.bs.length = 20
  · have HTK : Hid (T = 2) := by
      have h := HT2.out
      rw [if_pos k1] at h
      exact h.symm
    have HTN : Hid (T ≠ 0) := by unfold Hid; rw [HTK.out]; decide
    have k1' : (c.bs.length : Int) = 20 := by omega
    have z0 := block_cell (i := 0) GZ2
    have z1 := block_cell (i := 1) GZ2
    have z2 := block_cell (i := 2) GZ2
    have z3 := block_cell (i := 3) GZ2
    have f0 := block_free (i := 0) GZ2
    have f1 := block_free (i := 1) GZ2
    have f2 := block_free (i := 2) GZ2
    have f3 := block_free (i := 3) GZ2
    simp only [List.getElem?_toArray, List.getElem?_cons_zero, List.getElem?_cons_succ] at z0 z1 z2 z3
    clear GC2 GB2 GZ2
    go_wp2
    refine bodyPost_ret (v := .tuple #[zeroCs, .int .i64 T]) ?_ rfl ⟨zeroCs, by rw [HT.out], (((X2.setCell (by simp; omega) _).setCell (by simp; omega) _).setCell (by simp; omega) _).setCell (by simp; omega) _, fun _ => rfl, fun h => absurd (HT.out.symm.trans h) HTN.out⟩
    rw [results_cell_tmp rfl]
    simp only [HTK.out]
    go_simp
    rfl
  have h2 := HT2.out
  rw [if_neg k1] at h2
  have HTK : Hid (T = 0) := h2.symm
  clear h2 HT2
  have k1' : ¬ (c.bs.length : Int) = 20 := by omega
  obtain ⟨l1, l2, l3⟩ := manyOK_len (checkC_ok hck).1
  obtain ⟨_, ⟨i, z, hi, hz, hsize, hby, hzs⟩, _, _⟩ := elem_bound
  have hb2 : i.bytes * (c.bs.length + 1) ≤ 281474976710656 := by rw [hby]; omega
  have hm1 : c.bs.length + 1 ≤ maxLen := by simp only [maxLen]; omega
  have hLn : ((c.bs.length : Int) + 1) = ((c.bs.length + 1 : Nat) : Int) := by omega
  have H2 := hid hm1
  have H3 := hid hb2
  have H4 := hid hi
  have H5 := hid hz
  have H6 := hid hsize
  have H7 := hid hLn
  have HL3 := hid l3
  have HKQ := hid k1
  have hx2s := X2.size
  clear hb2 hm1 hi hz hsize hby hzs hLn l3
  go_wp2_with (at_make; refine wpList_make_some _ rfl _ _ 23 rfl w.heap.size 35 i z 3 Try.underlying23 H4.out H5.out H6.out .i64 .i64 _ _ (c.bs.length + 1) rfl rfl H7.out H7.out H3.out H2.out hx2s ?_)
  intro w3 xs hown3 hgr3
  have x3 : Ext w2 w3 := Ext.grown (Ext.refl w2) hgr3 (fun k e => by cases e)
  have GC3 := (Below.block x3 _ (by omega)).trans GC2
  have GB3 := (Below.block x3 _ (by omega)).trans GB2
  have GZ3 := (Below.block x3 _ (by omega)).trans GZ2
  have X3 := X2.trans x3
  have hz3 := x3.size
  have O3 := hid hown3
  obtain ⟨g, hg⟩ : ∃ g, w2.heap.size = g := ⟨_, rfl⟩
  rw [hg] at O3 ⊢
  have HG := hid hg
  clear GC2 GB2 GZ2 X2 x3 hg hgr3 hown3 c0 c1' c2' c3 b0 b1 b2
  have c0 := block_cell (i := 0) GC3
  have c1' := block_cell (i := 1) GC3
  have c2' := block_cell (i := 2) GC3
  have c3 := block_cell (i := 3) GC3
  simp only [List.getElem?_toArray, List.getElem?_cons_zero, List.getElem?_cons_succ] at c0 c1' c2' c3
  have hg3 := (O3.out.lt g rfl).2
  have hgn : w.heap.size + 3 ≤ g := by have := HG.out; omega
  have hsz3 : (Try.prog.info? 35).map (·.size) = some 3 := by rw [H4.out]; simp [H6.out]
  have HS3 := hid hsz3
  have hBa := hB.ext X3
  have hm1 : c.bs.length ≤ c.bs.length + 1 := Nat.le_succ _
  have HM1 := hid hm1
  clear hsz3 hm1
  go_wp2_with (refine wpList_copy_into _ rfl _ _ 23 23 rfl 35 35 3 Try.underlying23 HS3.out rfl O3.out A1 c.bs.length c1 (bcells c.bs) rfl HM1.out (bcells_len _) hBa (bcells_one _) (by decide) ?_)
  intro w4 hown4 hb4
  have GC4 := hb4.heap GC3 (by show ¬ w.heap.size = g; omega)
  have GB4 := hb4.heap GB3 (by show ¬ w.heap.size + 1 = g; omega)
  have GZ4 := hb4.heap GZ3 (by show ¬ w.heap.size + 1 + 1 = g; omega)
  have X4 := Ext.then_bel X3 (show w.heap.size ≤ g by omega) (hb4.bel fun _ _ h => h)
  have hg4 := hb4.size
  have hdl : (xs.drop (c.bs.length * 3)).length = 3 := by
    have := O3.out.1
    rw [List.length_drop]; omega
  obtain ⟨u0, u1, u2, hu⟩ : ∃ u0 u1 u2, xs.drop (c.bs.length * 3) = [u0, u1, u2] := by
    match hq : xs.drop (c.bs.length * 3), hdl with
    | [u0, u1, u2], _ => exact ⟨u0, u1, u2, rfl⟩
  rw [hu] at hown4
  have O4 := hid hown4
  have hf := hown4.frozenAt
  have fg0 := hf (c.bs.length * 3)
  have fg1 := hf (c.bs.length * 3 + 1)
  have fg2 := hf (c.bs.length * 3 + 2)
  have g0 := hown4.cellAt (c.bs.length * 3) (by omega)
  have g1 := hown4.cellAt (c.bs.length * 3 + 1) (by omega)
  have g2 := hown4.cellAt (c.bs.length * 3 + 2) (by omega)
  rw [List.getElem?_append_right (by rw [bcells_len]; omega), bcells_len, Nat.sub_self] at g0
  rw [List.getElem?_append_right (by rw [bcells_len]; omega), bcells_len, show c.bs.length * 3 + 1 - c.bs.length * 3 = 1 by omega] at g1
  rw [List.getElem?_append_right (by rw [bcells_len]; omega), bcells_len, show c.bs.length * 3 + 2 - c.bs.length * 3 = 2 by omega] at g2
  simp only [List.getElem?_cons_zero, List.getElem?_cons_succ] at g0 g1 g2
  clear GC3 GB3 GZ3 X3 hb4 hown4 hf c0 c1' c2' c3 hBa hu hdl O3
  have c0 := block_cell (i := 0) GC4
  have c1' := block_cell (i := 1) GC4
  have c2' := block_cell (i := 2) GC4
  have c3 := block_cell (i := 3) GC4
  have b0 := block_cell (i := 0) GB4
  have b1 := block_cell (i := 1) GB4
  have b2 := block_cell (i := 2) GB4
  have fc1 := block_free (i := 1) GC4
  have fc3 := block_free (i := 3) GC4
  simp only [List.getElem?_toArray, List.getElem?_cons_zero, List.getElem?_cons_succ] at c0 c1' c2' c3 b0 b1 b2
  have ne1 : w.heap.size ≠ g := by omega
  have ne2 : w.heap.size + 1 ≠ g := by omega
  have ne3 : w.heap.size + 1 + 1 ≠ g := by omega
  go_wp2_with fail
  have OS : (((w4.setCell ⟨g, c.bs.length * 3, none⟩ (.int .i64 f)).setCell ⟨g, c.bs.length * 3 + 1, none⟩ (.int .i64 t)).setCell ⟨g, c.bs.length * 3 + 2, none⟩ (.int .i64 m)).ownsRow w.heap.size 35 3 (.slice (some ⟨g, 0, none⟩) (c.bs.length + 1) (c.bs.length + 1)) (c.bs.length + 1) (bcells (c.bs ++ [⟨f, t, m⟩])) := by
    have h1 := (O4.out.stored (c.bs.length * 3) (.int .i64 f)).1
    have h2 := (h1.stored (c.bs.length * 3 + 1) (.int .i64 t)).1
    have h3 := (h2.stored (c.bs.length * 3 + 2) (.int .i64 m)).1
    have hbl := bcells_len c.bs
    rw [List.set_append_right _ _ (by omega), hbl, Nat.sub_self, List.set_append_right _ _ (by omega), hbl, show c.bs.length * 3 + 1 - c.bs.length * 3 = 1 by omega, List.set_append_right _ _ (by omega), hbl, show c.bs.length * 3 + 2 - c.bs.length * 3 = 2 by omega] at h3
    rw [bcells_app]
    exact h3
  have xb5 : BelS (fun i => i = g) w4 (((w4.setCell ⟨g, c.bs.length * 3, none⟩ (.int .i64 f)).setCell ⟨g, c.bs.length * 3 + 1, none⟩ (.int .i64 t)).setCell ⟨g, c.bs.length * 3 + 2, none⟩ (.int .i64 m)) := (((BelS.refl _ w4).setCell (S := fun i => i = g) ⟨g, c.bs.length * 3, none⟩ _ rfl).setCell ⟨g, c.bs.length * 3 + 1, none⟩ _ rfl).setCell ⟨g, c.bs.length * 3 + 2, none⟩ _ rfl
  have xs5 : BelS (fun i => i = w.heap.size) (((w4.setCell ⟨g, c.bs.length * 3, none⟩ (.int .i64 f)).setCell ⟨g, c.bs.length * 3 + 1, none⟩ (.int .i64 t)).setCell ⟨g, c.bs.length * 3 + 2, none⟩ (.int .i64 m)) ((((w4.setCell ⟨g, c.bs.length * 3, none⟩ (.int .i64 f)).setCell ⟨g, c.bs.length * 3 + 1, none⟩ (.int .i64 t)).setCell ⟨g, c.bs.length * 3 + 2, none⟩ (.int .i64 m)).setCell ⟨w.heap.size, 1, none⟩ (.slice (some ⟨g, 0, none⟩) (c.bs.length + 1) (c.bs.length + 1))) := (BelS.refl _ _).setCell (S := fun i => i = w.heap.size) ⟨w.heap.size, 1, none⟩ _ rfl
  have GC5 : ((((w4.setCell ⟨g, c.bs.length * 3, none⟩ (.int .i64 f)).setCell ⟨g, c.bs.length * 3 + 1, none⟩ (.int .i64 t)).setCell ⟨g, c.bs.length * 3 + 2, none⟩ (.int .i64 m)).setCell ⟨w.heap.size, 1, none⟩ (.slice (some ⟨g, 0, none⟩) (c.bs.length + 1) (c.bs.length + 1))).heap[w.heap.size]? = some (.cells #[.int .i64 c.ev, (.slice (some ⟨g, 0, none⟩) (c.bs.length + 1) (c.bs.length + 1)), .int .i64 c.wi, .slice A2 c.cl.length c2] 26 (0, 0)) := by
    have := heap_set (xb5.heap GC4 (by show ¬ w.heap.size = g; omega)) (i := 1) (.slice (some ⟨g, 0, none⟩) (c.bs.length + 1) (c.bs.length + 1))
    simpa using this
  have GZ5 := xs5.heap (xb5.heap GZ4 (by show ¬ w.heap.size + 1 + 1 = g; omega)) (by show ¬ w.heap.size + 1 + 1 = w.heap.size; omega)
  have O5 := hid (xs5.own OS (fun k e h => by have h2 : g = k := Option.some.inj e; omega))
  have X5 : Ext w ((((w4.setCell ⟨g, c.bs.length * 3, none⟩ (.int .i64 f)).setCell ⟨g, c.bs.length * 3 + 1, none⟩ (.int .i64 t)).setCell ⟨g, c.bs.length * 3 + 2, none⟩ (.int .i64 m)).setCell ⟨w.heap.size, 1, none⟩ (.slice (some ⟨g, 0, none⟩) (c.bs.length + 1) (c.bs.length + 1))) := (((X4.setCell (by show w.heap.size ≤ g; omega) _).setCell (by show w.heap.size ≤ g; omega) _).setCell (by show w.heap.size ≤ g; omega) _).setCell (Nat.le_refl _) _
  have z5 := xb5.size
  have z6 := xs5.size
  generalize hW5 : ((((w4.setCell ⟨g, c.bs.length * 3, none⟩ (.int .i64 f)).setCell ⟨g, c.bs.length * 3 + 1, none⟩ (.int .i64 t)).setCell ⟨g, c.bs.length * 3 + 2, none⟩ (.int .i64 m)).setCell ⟨w.heap.size, 1, none⟩ (.slice (some ⟨g, 0, none⟩) (c.bs.length + 1) (c.bs.length + 1))) = W5 at xs5 GC5 GZ5 O5 X5 z6 ⊢
  clear hW5 xs5 xb5 OS O4 GC4 GB4 GZ4 X4 fg0 fg1 fg2 g0 g1 g2 fc1 fc3 c0 c1' c2' c3 b0 b1 b2
  have hz5 : w.heap.size + 3 ≤ W5.heap.size := by omega
  have hg5 : g < W5.heap.size := by omega
  clear z5 z6 hg4 hg3
  obtain ⟨xs0, hR0, hC0⟩ := hC.ext X5
  refine (twin_any A2 c2 c.cl W5 xs0 hR0 hC0 (by omega) (fun x hx => by have := HL3.out x hx; omega)).mono ?_
  rintro e w6 ⟨A6, c6, ys, rfl, o6, hcl, _, hx6⟩
  have GC6 := (Below.block hx6 _ (by omega)).trans GC5
  have GZ6 := (Below.block hx6 _ (by omega)).trans GZ5
  have X6 := X5.trans hx6
  have O6 := hid (own_below O5.out hx6)
  have OC := hid o6
  have HCL := hid hcl
  have hz6 := hx6.size
  clear GC5 GZ5 X5 o6 hcl O5 hR0 hC0 hx6
  have c0 := block_cell (i := 0) GC6
  have c1' := block_cell (i := 1) GC6
  have c2' := block_cell (i := 2) GC6
  have c3 := block_cell (i := 3) GC6
  have fc3 := block_free (i := 3) GC6
  simp only [List.getElem?_toArray, List.getElem?_cons_zero, List.getElem?_cons_succ] at c0 c1' c2' c3
  have z0 := block_cell (i := 0) GZ6
  have z1 := block_cell (i := 1) GZ6
  have z2 := block_cell (i := 2) GZ6
  have z3 := block_cell (i := 3) GZ6
  have f0 := block_free (i := 0) GZ6
  have f1 := block_free (i := 1) GZ6
  have f2 := block_free (i := 2) GZ6
  have f3 := block_free (i := 3) GZ6
  simp only [List.getElem?_toArray, List.getElem?_cons_zero, List.getElem?_cons_succ] at z0 z1 z2 z3
  have nz : w.heap.size + 1 + 1 ≠ w.heap.size := by omega
  go_wp2
  have xb7 : BelS (fun i => i = w.heap.size ∨ i = w.heap.size + 1 + 1) w6 (((((w6.setCell ⟨w.heap.size, 3, none⟩ (.slice A6 c.cl.length c6)).setCell ⟨w.heap.size + 1 + 1, 0, none⟩ (.int .i64 c.ev)).setCell ⟨w.heap.size + 1 + 1, 1, none⟩ (.slice (some ⟨g, 0, none⟩) (c.bs.length + 1) (c.bs.length + 1))).setCell ⟨w.heap.size + 1 + 1, 2, none⟩ (.int .i64 c.wi)).setCell ⟨w.heap.size + 1 + 1, 3, none⟩ (.slice A6 c.cl.length c6)) :=
    (((((BelS.refl _ w6).setCell (S := fun i => i = w.heap.size ∨ i = w.heap.size + 1 + 1) ⟨w.heap.size, 3, none⟩ _ (.inl rfl)).setCell ⟨w.heap.size + 1 + 1, 0, none⟩ _ (.inr rfl)).setCell ⟨w.heap.size + 1 + 1, 1, none⟩ _ (.inr rfl)).setCell ⟨w.heap.size + 1 + 1, 2, none⟩ _ (.inr rfl)).setCell ⟨w.heap.size + 1 + 1, 3, none⟩ _ (.inr rfl)
  have X7 : Ext w (((((w6.setCell ⟨w.heap.size, 3, none⟩ (.slice A6 c.cl.length c6)).setCell ⟨w.heap.size + 1 + 1, 0, none⟩ (.int .i64 c.ev)).setCell ⟨w.heap.size + 1 + 1, 1, none⟩ (.slice (some ⟨g, 0, none⟩) (c.bs.length + 1) (c.bs.length + 1))).setCell ⟨w.heap.size + 1 + 1, 2, none⟩ (.int .i64 c.wi)).setCell ⟨w.heap.size + 1 + 1, 3, none⟩ (.slice A6 c.cl.length c6)) := ((((X6.setCell (Nat.le_refl _) _).setCell (by simp; omega) _).setCell (by simp; omega) _).setCell (by simp; omega) _).setCell (by simp; omega) _
  have O7 := xb7.own O6.out (fun k e h => by have h2 : g = k := Option.some.inj e; omega)
  have OC7 := own_base (base' := w.heap.size) (xb7.own OC.out (fun k e h => by have := (OC.out.lt k e).1; omega)) (by omega)
  have HC7 := (HCL.out.keep (fun v n zs ho => xb7.own ho (fun k e h => by have := (ho.lt k e).1; omega))).base (B' := w.heap.size) (by omega)
  refine bodyPost_ret (v := .tuple #[.agg #[.int .i64 c.ev, (.slice (some ⟨g, 0, none⟩) (c.bs.length + 1) (c.bs.length + 1)), .int .i64 c.wi, .slice A6 c.cl.length c6], .int .i64 T]) ?_ rfl ⟨.agg #[.int .i64 c.ev, (.slice (some ⟨g, 0, none⟩) (c.bs.length + 1) (c.bs.length + 1)), .int .i64 c.wi, .slice A6 c.cl.length c6], by rw [HT.out], X7, fun h => absurd (HT.out.symm ▸ HTK.out) h, fun _ => ⟨some ⟨g, 0, none⟩, c.bs.length + 1, A6, c6, ys, ?_, ?_, OC7, HC7⟩⟩
  · rw [results_cell_tmp rfl]
    simp only [HTK.out]
    go_simp
  · unfold Cs.add; simp
  · unfold Cs.add; simpa using O7
end Go.Proofs.Ytgnjhaomlbkgcaa
