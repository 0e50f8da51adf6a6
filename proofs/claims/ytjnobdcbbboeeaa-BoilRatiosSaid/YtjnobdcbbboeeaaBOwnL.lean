/- The walks of laurelkit's Dup over weighings, and the law's Own. -/
import Derived.Test.YtjnobdcbbboeeaaBLwc
namespace Go.Proofs.Ytjnobdcbbboeeaa
open Go Go.RowKit Go.Shelf
set_option linter.unusedVariables false
set_option linter.unusedSimpArgs false

set_option maxRecDepth 100000 in
set_option maxHeartbeats 4000000 in
theorem ldup_any (A : Option Addr) (c : Nat) (l : List Wg) (w : World) (hA : Wgs w A l) (hl : l.length ≤ 1000) :
    Calls Try.prog 80 #[.slice A l.length c] w fun e w' => ∃ g c', e = .returned (.slice (some ⟨g, 0, none⟩) l.length c') ∧ w'.ownsRow w.heap.size 55 5 (.slice (some ⟨g, 0, none⟩) l.length c') l.length (layWg.rows l) ∧ Ext w w' := by
  obtain ⟨-, ⟨ti, tz, hti, htz, htsize, htby, htzs⟩, -, -⟩ := elem_wg
  have HLen : Hid ((layWg.rows l).length = l.length * 5) := layWg.rows_len l
  obtain ⟨N, hN⟩ : ∃ N : Nat, l.length = N := ⟨_, rfl⟩
  have hb2' : Hid (ti.bytes * N ≤ 281474976710656) := by unfold Hid; rw [htby]; omega
  have hm1 : Hid (N ≤ maxLen) := by unfold Hid maxLen; omega
  have H4 := hid hti
  have H5 := hid htz
  have H6 := hid htsize
  clear hti htz htsize htby htzs
  have HA := hid hA
  rw [hN] at hl HLen ⊢
  clear hN hA
  go_enter Try.func80, Try.ntmps80
  go_wp2_with (at_make; refine wpList_make_room _ rfl _ _ 23 rfl w.heap.size 55 ti tz 5 Try.underlying23 H4.out H5.out H6.out .i64 .i64 (0 : Int) (N : Int) 0 N rfl rfl rfl rfl (Nat.zero_le _) hb2'.out hm1.out (Nat.le_refl _) ?_)
  intro w5 zs5 own5 gr5
  have V5 : Ext w w5 := Ext.grown (Ext.refl _) gr5 (fun j e => by cases e)
  obtain rfl : zs5 = [] := List.eq_nil_of_length_eq_zero (by rw [own_len own5])
  have HO := hid own5
  clear own5 gr5
  go_wp2_with (at_builtin; refine wpList_append_rd2 _ rfl _ _ 23 rfl elem_wg w.heap.size _ 0 [] rfl HO.out A N c (layWg.rows l) rfl HLen.out (Rd.ext HA.out V5) (layWg.rows_one l) (by omega) V5.size ?_; intro A6 c6 w6 own6 bel6 gr6 at6)
  have gr6' : w5.grownBy w6 (Value.slice (some ⟨w.heap.size, 0, none⟩) 0 N).ownBlock := gr6
  have V6 : Ext w w6 := Ext.grown V5 gr6' (fun j e => by cases e; exact Nat.le_refl _)
  obtain ⟨g, rfl⟩ : ∃ g, A6 = some ⟨g, 0, none⟩ := by
    rcases own6.2 with ⟨h1, -⟩ | ⟨g2, cap, cur, e1, -⟩
    · injection h1 with h2
      subst h2
      rcases at6 with h | h <;> cases h
    · cases e1; exact ⟨g2, rfl⟩
  simp only [Nat.zero_add, List.nil_append] at own6 ⊢
  go_ret
  exact ⟨g, c6, rfl, own6, V6⟩
set_option maxRecDepth 100000 in
set_option maxHeartbeats 4000000 in
theorem lown_any (v : Value) (h : Hs) (w : World) (hr : HsR w v h) (hl : h.ws.length ≤ 1000) :
    Calls Try.prog 24 #[v] w fun e w' => ∃ g c', e = .returned (hval h (some ⟨g, 0, none⟩) c') ∧ w'.ownsRow w.heap.size 55 5 (.slice (some ⟨g, 0, none⟩) h.ws.length c') h.ws.length (layWg.rows h.ws) ∧ Ext w w' := by
  obtain ⟨A, c, rfl, hrw, hcap⟩ := hr
  obtain ⟨w1, hw1⟩ : ∃ w1, (w.alloc (.cells #[.int .i64 h.mo, .int .i64 h.pk, .slice A h.ws.length c] 25)).alloc (.cells #[.int .i64 0, .int .i64 0, .slice none 0 0] 25) = w1 := ⟨_, rfl⟩
  have hx1 : Ext w w1 := by rw [← hw1]; exact (Ext.refl w).alloc _ |>.alloc _
  have b1 : w1.heap[w.heap.size]? = some (.cells #[.int .i64 h.mo, .int .i64 h.pk, .slice A h.ws.length c] 25 (0, 0)) := by rw [← hw1]; exact (Below.heap_alloc _ _ _ (by simp)).trans (heap_alloc_new w _)
  have b2 : w1.heap[w.heap.size + 1]? = some (.cells #[.int .i64 0, .int .i64 0, .slice none 0 0] 25 (0, 0)) := by
    rw [← hw1]
    have q := heap_alloc_new (w.alloc (.cells #[.int .i64 h.mo, .int .i64 h.pk, .slice A h.ws.length c] 25)) (.cells #[.int .i64 0, .int .i64 0, .slice none 0 0] 25)
    rw [World.size_alloc] at q
    exact q
  have HRW : Hid (Wgs w1 A h.ws) := Rows.ext hrw hx1
  have KD := hid (ldup_any A c h.ws w1 HRW.out hl)
  obtain ⟨N, hN⟩ : ∃ N : Nat, h.ws.length = N := ⟨_, rfl⟩
  have HN := hid hN
  unfold hval
  rw [hN] at KD b1 hw1 ⊢
  clear hN hrw
  obtain ⟨c0, c1, c2, fz⟩ := house_cells b1
  go_enter Try.func24, Try.ntmps24
  go_upto_region 1 with fail
  try rw [hw1]
  clear hw1
  go_wp2_with fail
  refine KD.out.mono ?_
  rintro e w2 ⟨g, c', rfl, ho, h2⟩
  clear KD c0 c1 c2 fz
  have b12 := (Below.block h2 _ (Array.getElem?_eq_some_iff.1 b1).1).trans b1
  have b22 := (Below.block h2 _ (Array.getElem?_eq_some_iff.1 b2).1).trans b2
  obtain ⟨c0, c1, c2, fz⟩ := house_cells b12
  obtain ⟨W3, hW3⟩ : ∃ W3, w2.setCell ⟨w.heap.size, 2, none⟩ (.slice (some ⟨g, 0, none⟩) N c') = W3 := ⟨_, rfl⟩
  have hb3 : Bel w.heap.size w2 W3 := by rw [← hW3]; exact (Bel.refl _ _).setCell 2 _
  have k3 : W3.heap[w.heap.size]? = some (.cells #[.int .i64 h.mo, .int .i64 h.pk, .slice (some ⟨g, 0, none⟩) N c'] 25 (0, 0)) := by
    rw [← hW3]; exact heap_setW b12 _
  have k4 : W3.heap[w.heap.size + 1]? = some (.cells #[.int .i64 0, .int .i64 0, .slice none 0 0] 25 (0, 0)) := hb3.heap b22 (by omega)
  go_upto_region 2 with fail
  try rw [hW3]
  clear hW3 c0 c1 c2 fz
  obtain ⟨c0, c1, c2, fz⟩ := house_cells k3
  obtain ⟨z0, z1, z2, fz2⟩ := house_cells k4
  obtain ⟨W, hW, q1, q2⟩ := put_house2 (v0 := .int .i64 h.mo) (v1 := .int .i64 h.pk) (v2 := .slice (some ⟨g, 0, none⟩) N c') k4
  obtain ⟨r0, r1, r2, -⟩ := house_cells q1
  have hz1 := hx1.size
  have hl1 := (Array.getElem?_eq_some_iff.1 b2).1
  have hE : Ext w W := (((Ext.belS (S := fun k => w.heap.size ≤ k) (hx1.trans h2)).trans (hb3.belS (Nat.le_refl _))).trans (q2.mono fun k _ hk => by subst hk; exact Nat.le_succ _)).ext (fun k hk hS => by omega)
  have hO : W.ownsRow w.heap.size 55 5 (.slice (some ⟨g, 0, none⟩) N c') N (layWg.rows h.ws) := by
    have h1 : W3.ownsRow w.heap.size 55 5 (.slice (some ⟨g, 0, none⟩) N c') N (layWg.rows h.ws) := hb3.own (own_base ho hz1) (fun j hj e => by have := (ho.lt j hj).1; omega)
    exact q2.own h1 (fun j hj e => by have := (ho.lt j hj).1; omega)
  go_wp2
  try rw [hW]
  refine bodyPost_ret (v := .agg #[.int .i64 h.mo, .int .i64 h.pk, .slice (some ⟨g, 0, none⟩) N c']) ?_ rfl ⟨g, c', rfl, hO, hE⟩
  simp [results, Try.results24, go_sem, r0, r1, r2]
end Go.Proofs.Ytjnobdcbbboeeaa
