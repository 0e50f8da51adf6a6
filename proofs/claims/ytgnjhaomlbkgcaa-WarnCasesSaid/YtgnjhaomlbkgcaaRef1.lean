/- The walks of the reference's off, All, by, Bad, Check and Everyone. Printed by my gen_ref1.py. -/
import Derived.Test.YtgnjhaomlbkgcaaWChk
import Derived.Test.YtgnjhaomlbkgcaaWGap
import Derived.Test.YtgnjhaomlbkgcaaWMade
import Derived.OwnWalk
namespace Go.Proofs.Ytgnjhaomlbkgcaa
open Go Go.RowKit
set_option linter.unusedVariables false
set_option linter.unusedSimpArgs false

theorem off_any (n lo hi : Int) (w : World) : Calls Try.prog 100 #[.int .i64 n, .int .i64 lo, .int .i64 hi] w fun e w' => e = .returned (.bool (!inB n lo hi)) ∧ w = w' := by
  by_cases h1 : n < lo
  · have H := hid (show (!inB n lo hi) = true by simp only [inB, Bool.not_eq_true', Bool.and_eq_false_iff, decide_eq_false_iff_not]; omega)
    go_enter Try.func100, Try.ntmps100
    go_wp2
    go_ret
    exact ⟨ret_of (bool_of H.out.symm), rfl⟩
  · by_cases h2 : n > hi
    · have H := hid (show (!inB n lo hi) = true by simp only [inB, Bool.not_eq_true', Bool.and_eq_false_iff, decide_eq_false_iff_not]; omega)
      go_enter Try.func100, Try.ntmps100
      go_wp2
      go_ret
      exact ⟨ret_of (bool_of H.out.symm), rfl⟩
    · have H := hid (show (!inB n lo hi) = false by simp only [inB, Bool.not_eq_false', Bool.and_eq_true, decide_eq_true_eq]; omega)
      go_enter Try.func100, Try.ntmps100
      go_wp2
      go_ret
      exact ⟨ret_of (bool_of H.out.symm), rfl⟩

theorem elem_rbound : ElemOK Try.prog 69 114 3 24 := by
  refine ⟨Try.underlying69, ?_, by decide, by decide⟩
  have h : ((Try.prog.info? 114).bind fun i => i.zero.map fun z => (i.size, i.bytes, z.cells.size)) = some (3, 24, 3) := by kernel_rfl
  cases hi : Try.prog.info? 114 with
  | none => rw [hi] at h; cases h
  | some i =>
    rw [hi] at h
    cases hz : i.zero with
    | none => simp [hz] at h
    | some z => simp [hz] at h; exact ⟨i, z, rfl, hz, h.1, h.2.1, h.2.2⟩
theorem take_next {α : Type} {l : List α} {k : Nat} {x : α} (h : l[k]? = some x) : l.take (k + 1) = l.take k ++ [x] := by
  have hk : k < l.length := (List.getElem?_eq_some_iff.1 h).1
  rw [List.take_succ_eq_append_getElem hk, (List.getElem?_eq_some_iff.1 h).2]
def icells (l : List Int) : List Value := l.map (Value.int .i64)
theorem icells_app (l m : List Int) : icells (l ++ m) = icells l ++ icells m := by simp [icells]
theorem icells_one (l : List Int) : ∀ u ∈ icells l, u.oneCell' = true := ints_one l
def m1 (l : List Bd) : List Int := l.map fun _ => -1
theorem m1_len (l : List Bd) : (m1 l).length = l.length := by simp [m1]
def mw (x : Cl) : List Int := x.bs.map fun _ => x.w
theorem mw_len (x : Cl) : (mw x).length = x.bs.length := by simp [mw]
theorem m1_get {l : List Bd} {k : Nat} {x : Bd} (h : l[k]? = some x) : (m1 l)[k]? = some (-1) := by simp [m1, h]
theorem mw_get {x : Cl} {k : Nat} {y : Bd} (h : x.bs[k]? = some y) : (mw x)[k]? = some x.w := by simp [mw, h]
/-- For each bound who claims it; less than nothing: the case. -/
def whoL (c : Cs) : List Int := m1 c.bs ++ c.cl.flatMap mw
theorem whoL_len (c : Cs) : (whoL c).length = c.all.length := by
  have h : ∀ l : List Cl, (l.flatMap mw).length = (l.flatMap (·.bs)).length := by
    intro l
    induction l with
    | nil => rfl
    | cons x l ih => simp only [List.flatMap_cons, List.length_append, mw_len, ih]
  simp only [whoL, Cs.all, List.length_append, m1_len, h]
theorem who_drop (l : List Cl) (k : Nat) (x : Cl) (h : l[k]? = some x) : (l.drop k).flatMap mw = mw x ++ (l.drop (k + 1)).flatMap mw := by
  have hk : k < l.length := (List.getElem?_eq_some_iff.1 h).1
  rw [List.drop_eq_getElem_cons hk, (List.getElem?_eq_some_iff.1 h).2]
  rfl
theorem all_flat (c : Cs) {j : Nat} {x : Cl} (h : c.cl[j]? = some x) : x.bs.length ≤ c.all.length := by
  have hm : x ∈ c.cl := List.mem_of_getElem? h
  obtain ⟨s, t, e⟩ := List.append_of_mem hm
  simp only [Cs.all, e, List.flatMap_append, List.flatMap_cons, List.length_append]
  omega

set_option maxRecDepth 100000 in
set_option maxHeartbeats 2000000 in
theorem refall_any (v : Value) (c : Cs) (w : World) (hc : CsR w v c) (hs : c.all.length * 24 ≤ 140737488355328) (hcl : c.sized) :
    Calls Try.prog 67 #[v] w fun e w' => ∃ A' c', e = .returned (.slice A' c.all.length c') ∧ w'.ownsRow w.heap.size 114 3 (.slice A' c.all.length c') c.all.length (bcells c.all) ∧ Ext w w' := by
  obtain ⟨A1, c1, A2, c2, rfl, hB, hC⟩ := hc
  obtain ⟨z1, z2, z3⟩ := hcl
  have Z3 := hid z3
  have hlen : c.bs.length ≤ c.all.length := by simp [Cs.all]
  have HW := hid (whoL_len c)
  have HF : Hid (c.all = c.bs ++ (c.cl.drop 0).flatMap (·.bs)) := rfl
  obtain ⟨F, hF⟩ : ∃ F, c.all = F := ⟨_, rfl⟩
  have hFl : F.length * 24 ≤ 140737488355328 := by rw [← hF]; exact hs
  rw [hF] at HF ⊢
  have hlF : c.bs.length ≤ F.length := by rw [HF.out]; simp
  clear hF hs HW
  obtain ⟨W0, hW0⟩ : ∃ W0, (w.alloc (.cells #[.int .i64 c.ev, .slice A1 c.bs.length c1, .int .i64 c.wi, .slice A2 c.cl.length c2] 72)) = W0 := ⟨_, rfl⟩
  have hx0 : Ext w W0 := by rw [← hW0]; exact Ext.alloc (Ext.refl w) _
  have hz0 : W0.heap.size = w.heap.size + 1 := by rw [← hW0]; simp
  have q1 : W0.cell? ⟨w.heap.size, 1, none⟩ = some (.slice A1 c.bs.length c1) := by rw [← hW0]; simp [go_sem]
  have q3 : W0.cell? ⟨w.heap.size, 3, none⟩ = some (.slice A2 c.cl.length c2) := by rw [← hW0]; simp [go_sem]
  have FX : Hid (∀ w', Ext W0 w' → w'.cell? ⟨w.heap.size, 1, none⟩ = some (.slice A1 c.bs.length c1) ∧ w'.cell? ⟨w.heap.size, 3, none⟩ = some (.slice A2 c.cl.length c2)) := fun w' h => ⟨h.cell q1, h.cell q3⟩
  clear q1 q3
  go_enter Try.func67, Try.ntmps67
  go_wp2
  try rw [hW0]
  clear hW0
  go_loopw [3, 4] (fun s i wr => ∃ (k : Nat) (A' : Option Addr) (c' : Nat), k ≤ c.bs.length ∧ i = .int .i64 (k : Int) ∧ s = .slice A' k c' ∧ Ext W0 wr ∧ Hid (wr.ownsRow (w.heap.size + 1) 114 3 (.slice A' k c') k (bcells (c.bs.take k)))) (fun _ i _ => c.bs.length - (intOf i).toNat)
  case atStart => exact ⟨0, none, 0, Nat.zero_le _, rfl, rfl, Ext.refl _, own_nil _ _ _ _⟩
  case round =>
    obtain ⟨k, A', c', hk, rfl, rfl, hx, O⟩ := hrel
    obtain ⟨p1, p3⟩ := FX.out _ hx
    have hxw := hx0.trans hx
    by_cases hlt : k < c.bs.length
    · have hlt' : (k : Int) < (c.bs.length : Int) := by omega
      obtain ⟨x, hxk⟩ := get_of_lt c.bs k hlt
      have HT : Hid (c.bs.take (k + 1) = c.bs.take k ++ [x]) := take_next (by exact hxk)
      obtain ⟨b, off, rfl, g0, g1, g2⟩ := (hB.ext hxw).at_ hxk
      have hsz := hx.size
      have hFk : (k + 1) * 24 ≤ 140737488355328 := by omega
      have hxo := Ext.alloc (Ext.refl wr) (.cells #[.int .i64 x.f, .int .i64 x.t, .int .i64 x.m] 114)
      have hbase : w.heap.size + 1 ≤ (wr.alloc (.cells #[.int .i64 x.f, .int .i64 x.t, .int .i64 x.m] 114)).heap.size := by have := hxo.size; omega
      have O2 := hid (own_below O.out hxo)
      clear hxk O
      go_wp2_with (at_builtin; refine wpList_append_rd _ rfl _ _ 69 rfl elem_rbound (w.heap.size + 1) _ k (bcells (c.bs.take k)) rfl O2.out _ 1 1 (bcells [x]) rfl rfl (rd_block (heap_alloc_new wr _)) (bcells_one _) hFk hbase ?_)
      intro A5 c5 w5 hown5 hbel5 hgr5 _
      have hx5 : Ext W0 w5 := Below.trans (hx.trans hxo) (Below.mono hbel5 (by omega))
      have O5 : Hid (w5.ownsRow (w.heap.size + 1) 114 3 (.slice A5 (k + 1) c5) (k + 1) (bcells (c.bs.take (k + 1)))) := by
        unfold Hid; rw [HT.out, bcells_app]; exact hown5
      clear hown5 hbel5 hgr5 O2 hxo HT
      go_wp2
      go_roundw
      case rel => exact ⟨k + 1, A5, c5, by omega, by go_num, rfl, hx5, O5⟩
      case measure => simp [intOf]; omega
    · have hlt' : ¬ (k : Int) < (c.bs.length : Int) := by omega
      have hke : k = c.bs.length := by omega
      subst hke
      obtain ⟨wo, rfl⟩ : ∃ wo : World, wo = wr := ⟨_, rfl⟩
      have O0 : Hid (wo.ownsRow (w.heap.size + 1) 114 3 (.slice A' c.bs.length c') c.bs.length (bcells c.bs)) := by
        have h := O.out
        rw [List.take_length] at h; exact h
      have hsl : Value.slice A' c.bs.length c' = .slice A' c.bs.length c' := rfl
      have HSL := hid hsl
      clear O hsl
      go_wp2
      clear p1 p3
      go_loopw [3, 5] (fun s i wr => ∃ (j : Nat) (cur : List Bd) (A' : Option Addr) (c' : Nat), j ≤ c.cl.length ∧ i = .int .i64 (j : Int) ∧ s = .slice A' cur.length c' ∧ Ext W0 wr ∧ Hid (wr.ownsRow (w.heap.size + 1) 114 3 (.slice A' cur.length c') cur.length (bcells cur)) ∧ Hid (F = cur ++ (c.cl.drop j).flatMap (·.bs))) (fun _ i _ => c.cl.length - (intOf i).toNat)
      case atStart => exact ⟨0, c.bs, A', c', Nat.zero_le _, rfl, (by first | rfl | exact HSL.out), hx, O0, HF⟩
      case round =>
        obtain ⟨j, cur, A', c', hj, rfl, rfl, hx, O, HF2⟩ := hrel
        obtain ⟨p1, p3⟩ := FX.out _ hx
        have hxw := hx0.trans hx
        by_cases hltj : j < c.cl.length
        · have hltj' : (j : Int) < (c.cl.length : Int) := by omega
          obtain ⟨x, hxj⟩ := get_of_lt c.cl j hltj
          have HD := hid (flat_drop c.cl j x hxj)
          have hbound : cur.length + x.bs.length ≤ F.length := by rw [HF2.out, HD.out]; simp <;> omega
          have hzx := Z3.out x (mem_of_get hxj)
          have HXJ := hid hxj
          clear hxj
          obtain ⟨wo, rfl⟩ : ∃ wo : World, wo = wr := ⟨_, rfl⟩
          go_wp2
          clear p1 p3
          go_loopw [3, 6] (fun s i wr => ∃ (k : Nat) (A' : Option Addr) (c' : Nat), k ≤ x.bs.length ∧ i = .int .i64 (k : Int) ∧ s = .slice A' (cur.length + k) c' ∧ Ext W0 wr ∧ Hid (wr.ownsRow (w.heap.size + 1) 114 3 (.slice A' (cur.length + k) c') (cur.length + k) (bcells (cur ++ x.bs.take k)))) (fun _ i _ => x.bs.length - (intOf i).toNat)
          case atStart => exact ⟨0, A', c', Nat.zero_le _, rfl, rfl, hx, by simpa using O⟩
          case round =>
            obtain ⟨k, A', c', hk, rfl, rfl, hx, O⟩ := hrel
            obtain ⟨p1, p3⟩ := FX.out _ hx
            have hxw := hx0.trans hx
            obtain ⟨b, off, A4, c4, rfl, k0, k1, hB4⟩ := (hC.ext hxw).at_ HXJ.out
            have hj8 : (j : Int) < (c.cl.length : Int) := by omega
            by_cases hltk : k < x.bs.length
            · have hltk' : (k : Int) < (x.bs.length : Int) := by omega
              obtain ⟨y, hyk⟩ := get_of_lt x.bs k hltk
              have HT : Hid (x.bs.take (k + 1) = x.bs.take k ++ [y]) := take_next (by exact hyk)
              obtain ⟨b2, off2, rfl, g0, g1, g2⟩ := hB4.at_ hyk
              have hsz := hx.size
              have hFk : (cur.length + k + 1) * 24 ≤ 140737488355328 := by omega
              have hxo := Ext.alloc (Ext.refl wr) (.cells #[.int .i64 y.f, .int .i64 y.t, .int .i64 y.m] 114)
              have hbase : w.heap.size + 1 ≤ (wr.alloc (.cells #[.int .i64 y.f, .int .i64 y.t, .int .i64 y.m] 114)).heap.size := by have := hxo.size; omega
              have O2 := hid (own_below O.out hxo)
              clear hyk O
              go_wp2_with (at_builtin; refine wpList_append_rd _ rfl _ _ 69 rfl elem_rbound (w.heap.size + 1) _ (cur.length + k) (bcells (cur ++ x.bs.take k)) rfl O2.out _ 1 1 (bcells [y]) rfl rfl (rd_block (heap_alloc_new wr _)) (bcells_one _) hFk hbase ?_)
              intro A5 c5 w5 hown5 hbel5 hgr5 _
              have hx5 : Ext W0 w5 := Below.trans (hx.trans hxo) (Below.mono hbel5 (by omega))
              have O5 : Hid (w5.ownsRow (w.heap.size + 1) 114 3 (.slice A5 (cur.length + (k + 1)) c5) (cur.length + (k + 1)) (bcells (cur ++ x.bs.take (k + 1)))) := by
                unfold Hid; rw [HT.out, ← List.append_assoc, bcells_app]; exact hown5
              clear hown5 hbel5 hgr5 O2 hxo HT
              go_wp2
              go_roundw
              case rel => exact ⟨k + 1, A5, c5, by omega, by go_num, rfl, hx5, O5⟩
              case measure => simp [intOf]; omega
            · have hltk' : ¬ (k : Int) < (x.bs.length : Int) := by omega
              have hke : k = x.bs.length := by omega
              subst hke
              have hcl2 : cur.length + x.bs.length = (cur ++ x.bs).length := by simp
              have O5 : Hid (wr.ownsRow (w.heap.size + 1) 114 3 (.slice A' (cur ++ x.bs).length c') (cur ++ x.bs).length (bcells (cur ++ x.bs))) := by
                have h := O.out
                rw [List.take_of_length_le (by simp), hcl2] at h; exact h
              have HS : Hid (Value.slice A' (cur.length + x.bs.length) c' = .slice A' (cur ++ x.bs).length c') := by unfold Hid; rw [hcl2]
              clear O hcl2
              go_wp2
              go_roundw
              case rel => exact ⟨j + 1, cur ++ x.bs, A', c', by omega, by go_num, HS.out, hx, O5, by unfold Hid; rw [HF2.out, HD.out, List.append_assoc]⟩
              case measure => simp [intOf]; omega
        · have hltj' : ¬ (j : Int) < (c.cl.length : Int) := by omega
          go_wp2
          go_ret
          have hF : F = cur := by rw [HF2.out, List.drop_eq_nil_of_le (by omega)]; simp
          refine ⟨A', c', ret_of (by rw [hF]; rfl), ?_, hxw⟩
          rw [hF]
          exact own_base O.out (by omega)

set_option maxRecDepth 100000 in
set_option maxHeartbeats 2000000 in
theorem refby_any (v : Value) (c : Cs) (w : World) (hc : CsR w v c) (hs : c.all.length * 24 ≤ 140737488355328) (hcl : c.sized) :
    Calls Try.prog 119 #[v] w fun e w' => ∃ A' c', e = .returned (.slice A' (whoL c).length c') ∧ w'.ownsRow w.heap.size 3 1 (.slice A' (whoL c).length c') (whoL c).length (icells (whoL c)) ∧ Ext w w' := by
  obtain ⟨A1, c1, A2, c2, rfl, hB, hC⟩ := hc
  obtain ⟨z1, z2, z3⟩ := hcl
  have Z3 := hid z3
  have hlen : c.bs.length ≤ c.all.length := by simp [Cs.all]
  have HW := hid (whoL_len c)
  have HF : Hid ((whoL c) = (m1 c.bs) ++ (c.cl.drop 0).flatMap mw) := rfl
  obtain ⟨F, hF⟩ : ∃ F, (whoL c) = F := ⟨_, rfl⟩
  have hFl : F.length * 24 ≤ 140737488355328 := by rw [← hF]; rw [HW.out]; exact hs
  rw [hF] at HF ⊢
  have hlF : c.bs.length ≤ F.length := by rw [HF.out]; simp [m1_len]
  clear hF hs HW
  obtain ⟨W0, hW0⟩ : ∃ W0, (w.alloc (.cells #[.int .i64 c.ev, .slice A1 c.bs.length c1, .int .i64 c.wi, .slice A2 c.cl.length c2] 72)) = W0 := ⟨_, rfl⟩
  have hx0 : Ext w W0 := by rw [← hW0]; exact Ext.alloc (Ext.refl w) _
  have hz0 : W0.heap.size = w.heap.size + 1 := by rw [← hW0]; simp
  have q1 : W0.cell? ⟨w.heap.size, 1, none⟩ = some (.slice A1 c.bs.length c1) := by rw [← hW0]; simp [go_sem]
  have q3 : W0.cell? ⟨w.heap.size, 3, none⟩ = some (.slice A2 c.cl.length c2) := by rw [← hW0]; simp [go_sem]
  have FX : Hid (∀ w', Ext W0 w' → w'.cell? ⟨w.heap.size, 1, none⟩ = some (.slice A1 c.bs.length c1) ∧ w'.cell? ⟨w.heap.size, 3, none⟩ = some (.slice A2 c.cl.length c2)) := fun w' h => ⟨h.cell q1, h.cell q3⟩
  clear q1 q3
  go_enter Try.func119, Try.ntmps119
  go_wp2
  try rw [hW0]
  clear hW0
  go_loopw [3, 4] (fun s i wr => ∃ (k : Nat) (A' : Option Addr) (c' : Nat), k ≤ c.bs.length ∧ i = .int .i64 (k : Int) ∧ s = .slice A' k c' ∧ Ext W0 wr ∧ Hid (wr.ownsRow (w.heap.size + 1) 3 1 (.slice A' k c') k (icells ((m1 c.bs).take k)))) (fun _ i _ => c.bs.length - (intOf i).toNat)
  case atStart => exact ⟨0, none, 0, Nat.zero_le _, rfl, rfl, Ext.refl _, own_nil _ _ _ _⟩
  case round =>
    obtain ⟨k, A', c', hk, rfl, rfl, hx, O⟩ := hrel
    obtain ⟨p1, p3⟩ := FX.out _ hx
    have hxw := hx0.trans hx
    by_cases hlt : k < c.bs.length
    · have hlt' : (k : Int) < (c.bs.length : Int) := by omega
      obtain ⟨x, hxk⟩ := get_of_lt c.bs k hlt
      have HT : Hid ((m1 c.bs).take (k + 1) = (m1 c.bs).take k ++ [(-1)]) := take_next (by exact m1_get hxk)
      skip
      have hsz := hx.size
      have hFk : (k + 1) * 8 ≤ 140737488355328 := by omega
      have hxo := Ext.alloc (Ext.refl wr) (.cells #[.int .i64 (-1)] 3)
      have hbase : w.heap.size + 1 ≤ (wr.alloc (.cells #[.int .i64 (-1)] 3)).heap.size := by have := hxo.size; omega
      have O2 := hid (own_below O.out hxo)
      clear hxk O
      go_wp2_with (at_builtin; refine wpList_append_rd _ rfl _ _ 27 rfl elem_int (w.heap.size + 1) _ k (icells ((m1 c.bs).take k)) rfl O2.out _ 1 1 (icells [(-1)]) rfl rfl (rd_block (heap_alloc_new wr _)) (icells_one _) hFk hbase ?_)
      intro A5 c5 w5 hown5 hbel5 hgr5 _
      have hx5 : Ext W0 w5 := Below.trans (hx.trans hxo) (Below.mono hbel5 (by omega))
      have O5 : Hid (w5.ownsRow (w.heap.size + 1) 3 1 (.slice A5 (k + 1) c5) (k + 1) (icells ((m1 c.bs).take (k + 1)))) := by
        unfold Hid; rw [HT.out, icells_app]; exact hown5
      clear hown5 hbel5 hgr5 O2 hxo HT
      go_wp2
      go_roundw
      case rel => exact ⟨k + 1, A5, c5, by omega, by go_num, rfl, hx5, O5⟩
      case measure => simp [intOf]; omega
    · have hlt' : ¬ (k : Int) < (c.bs.length : Int) := by omega
      have hke : k = c.bs.length := by omega
      subst hke
      obtain ⟨wo, rfl⟩ : ∃ wo : World, wo = wr := ⟨_, rfl⟩
      have O0 : Hid (wo.ownsRow (w.heap.size + 1) 3 1 (.slice A' (m1 c.bs).length c') (m1 c.bs).length (icells (m1 c.bs))) := by
        have h := O.out
        rw [List.take_of_length_le (by rw [m1_len]; omega)] at h; unfold Hid; rw [m1_len]; exact h
      have hsl : Value.slice A' c.bs.length c' = .slice A' (m1 c.bs).length c' := by rw [m1_len]
      have HSL := hid hsl
      clear O hsl
      go_wp2
      clear p1 p3
      go_loopw [3, 5] (fun s i wr => ∃ (j : Nat) (cur : List Int) (A' : Option Addr) (c' : Nat), j ≤ c.cl.length ∧ i = .int .i64 (j : Int) ∧ s = .slice A' cur.length c' ∧ Ext W0 wr ∧ Hid (wr.ownsRow (w.heap.size + 1) 3 1 (.slice A' cur.length c') cur.length (icells cur)) ∧ Hid (F = cur ++ (c.cl.drop j).flatMap mw)) (fun _ i _ => c.cl.length - (intOf i).toNat)
      case atStart => exact ⟨0, (m1 c.bs), A', c', Nat.zero_le _, rfl, (by first | rfl | exact HSL.out), hx, O0, HF⟩
      case round =>
        obtain ⟨j, cur, A', c', hj, rfl, rfl, hx, O, HF2⟩ := hrel
        obtain ⟨p1, p3⟩ := FX.out _ hx
        have hxw := hx0.trans hx
        by_cases hltj : j < c.cl.length
        · have hltj' : (j : Int) < (c.cl.length : Int) := by omega
          obtain ⟨x, hxj⟩ := get_of_lt c.cl j hltj
          have HD := hid (who_drop c.cl j x hxj)
          have hbound : cur.length + x.bs.length ≤ F.length := by rw [HF2.out, HD.out]; simp [mw_len] <;> omega
          have hzx := Z3.out x (mem_of_get hxj)
          have HXJ := hid hxj
          clear hxj
          obtain ⟨wo, rfl⟩ : ∃ wo : World, wo = wr := ⟨_, rfl⟩
          go_wp2
          clear p1 p3
          go_loopw [3, 6] (fun s i wr => ∃ (k : Nat) (A' : Option Addr) (c' : Nat), k ≤ x.bs.length ∧ i = .int .i64 (k : Int) ∧ s = .slice A' (cur.length + k) c' ∧ Ext W0 wr ∧ Hid (wr.ownsRow (w.heap.size + 1) 3 1 (.slice A' (cur.length + k) c') (cur.length + k) (icells (cur ++ (mw x).take k)))) (fun _ i _ => x.bs.length - (intOf i).toNat)
          case atStart => exact ⟨0, A', c', Nat.zero_le _, rfl, rfl, hx, by simpa using O⟩
          case round =>
            obtain ⟨k, A', c', hk, rfl, rfl, hx, O⟩ := hrel
            obtain ⟨p1, p3⟩ := FX.out _ hx
            have hxw := hx0.trans hx
            obtain ⟨b, off, A4, c4, rfl, k0, k1, hB4⟩ := (hC.ext hxw).at_ HXJ.out
            have hj8 : (j : Int) < (c.cl.length : Int) := by omega
            by_cases hltk : k < x.bs.length
            · have hltk' : (k : Int) < (x.bs.length : Int) := by omega
              obtain ⟨y, hyk⟩ := get_of_lt x.bs k hltk
              have HT : Hid ((mw x).take (k + 1) = (mw x).take k ++ [x.w]) := take_next (by exact mw_get hyk)
              skip
              have hsz := hx.size
              have hFk : (cur.length + k + 1) * 8 ≤ 140737488355328 := by omega
              have hxo := Ext.alloc (Ext.refl wr) (.cells #[.int .i64 x.w] 3)
              have hbase : w.heap.size + 1 ≤ (wr.alloc (.cells #[.int .i64 x.w] 3)).heap.size := by have := hxo.size; omega
              have O2 := hid (own_below O.out hxo)
              clear hyk O
              go_wp2_with (at_builtin; refine wpList_append_rd _ rfl _ _ 27 rfl elem_int (w.heap.size + 1) _ (cur.length + k) (icells (cur ++ (mw x).take k)) rfl O2.out _ 1 1 (icells [x.w]) rfl rfl (rd_block (heap_alloc_new wr _)) (icells_one _) hFk hbase ?_)
              intro A5 c5 w5 hown5 hbel5 hgr5 _
              have hx5 : Ext W0 w5 := Below.trans (hx.trans hxo) (Below.mono hbel5 (by omega))
              have O5 : Hid (w5.ownsRow (w.heap.size + 1) 3 1 (.slice A5 (cur.length + (k + 1)) c5) (cur.length + (k + 1)) (icells (cur ++ (mw x).take (k + 1)))) := by
                unfold Hid; rw [HT.out, ← List.append_assoc, icells_app]; exact hown5
              clear hown5 hbel5 hgr5 O2 hxo HT
              go_wp2
              go_roundw
              case rel => exact ⟨k + 1, A5, c5, by omega, by go_num, rfl, hx5, O5⟩
              case measure => simp [intOf]; omega
            · have hltk' : ¬ (k : Int) < (x.bs.length : Int) := by omega
              have hke : k = x.bs.length := by omega
              subst hke
              have hcl2 : cur.length + x.bs.length = (cur ++ (mw x)).length := by simp [mw_len]
              have O5 : Hid (wr.ownsRow (w.heap.size + 1) 3 1 (.slice A' (cur ++ (mw x)).length c') (cur ++ (mw x)).length (icells (cur ++ (mw x)))) := by
                have h := O.out
                rw [List.take_of_length_le (by simp [mw_len]), hcl2] at h; exact h
              have HS : Hid (Value.slice A' (cur.length + x.bs.length) c' = .slice A' (cur ++ (mw x)).length c') := by unfold Hid; rw [hcl2]
              clear O hcl2
              go_wp2
              go_roundw
              case rel => exact ⟨j + 1, cur ++ (mw x), A', c', by omega, by go_num, HS.out, hx, O5, by unfold Hid; rw [HF2.out, HD.out, List.append_assoc]⟩
              case measure => simp [intOf]; omega
        · have hltj' : ¬ (j : Int) < (c.cl.length : Int) := by omega
          go_wp2
          go_ret
          have hF : F = cur := by rw [HF2.out, List.drop_eq_nil_of_le (by omega)]; simp
          refine ⟨A', c', ret_of (by rw [hF]; rfl), ?_, hxw⟩
          rw [hF]
          exact own_base O.out (by omega)
end Go.Proofs.Ytgnjhaomlbkgcaa
