/- boil.Proof, paired, and Dup over pairs. Printed by my gen_bfws.py. -/
import Derived.Test.YtjnobdcbbboeeaaBPrf2
import Derived.Test.YtjnobdcbbboeeaaBCmp
import Derived.Test.YtjnobdcbbboeeaaH9
namespace Go.Proofs.Ytjnobdcbbboeeaa
open Go Go.RowKit Go.Shelf
set_option linter.unusedVariables false
set_option linter.unusedSimpArgs false

set_option maxRecDepth 100000 in
set_option maxHeartbeats 4000000 in
theorem ldup_bp (A : Option Addr) (c : Nat) (l : List (Int × Int)) (w : World) (hA : Prs w A l) (hl : l.length ≤ 1000) :
    Calls Try.prog 35 #[.slice A l.length c] w fun e w' => ∃ g c', e = .returned (.slice (some ⟨g, 0, none⟩) l.length c') ∧ w'.ownsRow w.heap.size 36 2 (.slice (some ⟨g, 0, none⟩) l.length c') l.length (layPr.rows l) ∧ Ext w w' := by
  obtain ⟨-, ⟨ti, tz, hti, htz, htsize, htby, htzs⟩, -, -⟩ := elem_pr
  have HLen : Hid ((layPr.rows l).length = l.length * 2) := layPr.rows_len l
  obtain ⟨N, hN⟩ : ∃ N : Nat, l.length = N := ⟨_, rfl⟩
  have hb2' : Hid (ti.bytes * N ≤ 281474976710656) := by unfold Hid; rw [htby]; omega
  have hm1 : Hid (N ≤ maxLen) := by unfold Hid maxLen; omega
  have H4 := hid hti
  have H5 := hid htz
  have H6 := hid htsize
  clear hti htz htsize htby htzs
  have HA := hid hA
  rw [hN] at hl HLen ⊢
  clear hN hA
  go_enter Try.func35, Try.ntmps35
  go_wp2_with (at_make; refine wpList_make_room _ rfl _ _ 69 rfl w.heap.size 36 ti tz 2 Try.underlying69 H4.out H5.out H6.out .i64 .i64 (0 : Int) (N : Int) 0 N rfl rfl rfl rfl (Nat.zero_le _) hb2'.out hm1.out (Nat.le_refl _) ?_)
  intro w5 zs5 own5 gr5
  have V5 : Ext w w5 := Ext.grown (Ext.refl _) gr5 (fun j e => by cases e)
  obtain rfl : zs5 = [] := List.eq_nil_of_length_eq_zero (by rw [own_len own5])
  have HO := hid own5
  clear own5 gr5
  go_wp2_with (at_builtin; refine wpList_append_rd2 _ rfl _ _ 69 rfl elem_pr w.heap.size _ 0 [] rfl HO.out A N c (layPr.rows l) rfl HLen.out (Rd.ext HA.out V5) (layPr.rows_one l) (by omega) V5.size ?_; intro A6 c6 w6 own6 bel6 gr6 at6)
  have gr6' : w5.grownBy w6 (Value.slice (some ⟨w.heap.size, 0, none⟩) 0 N).ownBlock := gr6
  have V6 : Ext w w6 := Ext.grown V5 gr6' (fun j e => by cases e; exact Nat.le_refl _)
  obtain ⟨g, rfl⟩ : ∃ g, A6 = some ⟨g, 0, none⟩ := by
    rcases own6.2 with ⟨h1, -⟩ | ⟨g2, cap, cur, e1, -⟩
    · injection h1 with h2
      subst h2
      rcases at6 with h | h <;> cases h
    · cases e1; exact ⟨g2, rfl⟩
  simp only [Nat.zero_add, List.nil_append] at own6 ⊢
  go_ret
  exact ⟨g, c6, rfl, own6, V6⟩

def PrfxPost (w : World) (h : Hs) (e : Ending) (w' : World) : Prop :=
  ∃ (A' : Option Addr) (c' : Nat) (pr : List (Int × Int)), e = .returned (.tuple #[.slice A' pr.length c', .int .i64 (checkH h)]) ∧ Ext w w' ∧ Prs w' A' pr ∧ (checkH h ≠ 0 → pr = []) ∧ (checkH h = 0 → pr.length = sizeH h ∧ PrfGood h pr)
set_option maxRecDepth 100000 in
set_option maxHeartbeats 2000000 in
theorem proofx_any (v : Value) (h : Hs) (w : World) (hr : HsR w v h) (hs : h.sized) :
    Calls Try.prog 39 #[v] w (PrfxPost w h) := by
  obtain ⟨A, c, rfl, hrw, hcap⟩ := hr
  unfold PrfxPost
  obtain ⟨T, hT⟩ : ∃ T, checkH h = T := ⟨_, rfl⟩
  obtain ⟨w1, hw1⟩ : ∃ w1, w.alloc (.cells #[.int .i64 h.mo, .int .i64 h.pk, .slice A h.ws.length c] 25) = w1 := ⟨_, rfl⟩
  have hx1 : Ext w w1 := by rw [← hw1]; exact Ext.alloc (Ext.refl w) _
  have b1 : w1.heap[w.heap.size]? = some (.cells #[.int .i64 h.mo, .int .i64 h.pk, .slice A h.ws.length c] 25 (0, 0)) := by rw [← hw1]; exact heap_alloc_new w _
  obtain ⟨c0, c1, c2, -⟩ := house_cells b1
  have KO := hid (opened_any (hval h A c) h w1 ⟨A, c, rfl, Rows.ext hrw hx1, hcap⟩ hs)
  unfold hval at KO
  have HT := hid hT
  have HW1 := hid hw1
  rw [hT]
  clear hw1 hT hrw b1 hs
  unfold hval
  go_enter Try.func39, Try.ntmps39
  go_upto_region 1 with fail
  rw [HW1.out]
  clear HW1
  go_wp2_with fail
  refine KO.out.mono ?_
  rintro e w2 ⟨r, rfl, h2, hok, hbad⟩
  rw [HT.out]
  rw [HT.out] at hok hbad
  have hx2 := hx1.trans h2
  clear KO c0 c1 c2
  by_cases h0 : T = 0
  case neg =>
    have h0b : (T != 0) = true := by simpa using h0
    go_wp2
    go_ret2
    exact ⟨none, 0, [], rfl, hx2, .inl rfl, fun _ => rfl, fun e => absurd e h0⟩
  subst h0
  have k := checkH_ok HT.out
  obtain ⟨D, A2, cc, rfl, hd, -, -⟩ := hok rfl
  have KP := hid (proof2_any h D A2 cc w2 k.len hd)
  clear hok hbad
  go_wp2_with fail
  refine KP.out.mono ?_
  rintro e w3 ⟨A3, c3, pr, rfl, hx3, hl, hp, hsrt, hrd⟩
  have HG := hid (prf_good k hp hsrt)
  have HLP := hid hl
  clear KP hl hp hsrt k
  go_wp2
  go_ret2
  refine ⟨A3, c3, pr, rfl, hx2.trans hx3, hrd, ?_⟩
  first | exact ⟨HLP.out, HG.out⟩ | exact ⟨fun e => absurd rfl e, fun _ => ⟨HLP.out, HG.out⟩⟩
set_option maxRecDepth 100000 in
set_option maxHeartbeats 2000000 in
theorem paired_any (A : Option Addr) (c : Nat) (l : List (Int × Int)) (w : World) (hA : Prs w A l) (hl : l.length ≤ 1000) :
    Calls Try.prog 41 #[.slice A l.length c] w fun e w' => ∃ A' c', e = .returned (.slice A' l.length c') ∧ w'.ownsRow w.heap.size 150 2 (.slice A' l.length c') l.length (layPr.rows l) ∧ Ext w w' := by
  obtain ⟨N, hN⟩ : ∃ N : Nat, l.length = N := ⟨_, rfl⟩
  have HN := hid hN
  have HA := hid hA
  rw [hN] at hl ⊢
  clear hN hA
  go_enter Try.func41, Try.ntmps41
  go_wp2
  go_loopw [3, 8] (fun s3 i wr => ∃ (k : Nat) (A' : Option Addr) (c' : Nat), i = .int .i64 (k : Int) ∧ k ≤ N ∧ s3 = .slice A' k c' ∧ wr.ownsRow w.heap.size 150 2 (.slice A' k c') k (layPr.rows (l.take k)) ∧ Ext w wr) (fun _ i _ => N - (intOf i).toNat)
  case atStart => exact ⟨0, none, 0, rfl, Nat.zero_le _, rfl, own_nil _ _ _ _, Ext.refl _⟩
  case round =>
    obtain ⟨k, A', c', rfl, hk, rfl, ho, hx⟩ := hrel
    by_cases hlt : k < N
    · have hlt' : (k : Int) < (N : Int) := by omega
      obtain ⟨x, hxk⟩ := get_of_lt l k (by rw [HN.out]; exact hlt)
      obtain ⟨b, off, e1, g0, g1⟩ := prs_get (Rows.ext HA.out hx) hxk
      subst e1
      have HNX : Hid (l.take (k + 1) = l.take k ++ [x]) := by unfold Hid; rw [List.take_add_one, hxk]; rfl
      clear hxk
      obtain ⟨W6, hW6⟩ : ∃ W6, wr.alloc (.cells #[.int .i64 x.1, .int .i64 x.2] 36) = W6 := ⟨_, rfl⟩
      have hx6 : Ext wr W6 := by rw [← hW6]; exact (Ext.refl _).alloc _
      have bx : W6.heap[wr.heap.size]? = some (.cells #[.int .i64 x.1, .int .i64 x.2] 36 (0, 0)) := by rw [← hW6]; exact heap_alloc_new wr _
      go_upto_region 5 with fail
      try rw [hW6]
      clear hW6 g0 g1
      obtain ⟨g0, g1, -⟩ := rat_cells bx
      have ho6 := own_below ho hx6
      have hx16 := hx.trans hx6
      have hz6 := hx16.size
      clear bx ho hx hx6
      go_wp2_with (at_builtin; refine wpList_append_rd2 _ rfl _ _ 83 rfl elem_rpr w.heap.size _ k (layPr.rows (l.take k)) rfl (own_below ho6 (Ext.alloc (Ext.refl _) _)) (some ⟨W6.heap.size, 0, none⟩) 1 1 (layPr.cells x) rfl rfl (rd_blk2 (heap_alloc_new W6 _)) (layPr.one x) (by omega) (by simp; omega) ?_)
      intro A5 c5 w8 own8 bel8 gr8 at8
      have gr8' : (W6.alloc (.cells (layPr.cells x).toArray 150)).grownBy w8 (Value.slice A' k c').ownBlock := gr8
      have hxN : Ext w w8 := Ext.grown (hx16.alloc (.cells (layPr.cells x).toArray 150)) gr8' (fun j e => (ho6.lt j e).1)
      rw [← layPr.rows_single, ← layPr.rows_app, ← HNX.out] at own8
      have HO8 := hid own8
      clear own8 gr8 gr8' at8 bel8 g0 g1
      go_wp2
      go_roundw
      case rel => exact ⟨k + 1, A5, c5, by go_num, by omega, rfl, HO8.out, hxN⟩
      case measure => simp [intOf]; omega
    · have hlt' : ¬ (k : Int) < (N : Int) := by omega
      obtain rfl : k = N := by omega
      rw [List.take_of_length_le (by rw [HN.out]; exact Nat.le_refl _)] at ho
      have HO := hid ho
      clear ho
      go_wp2
      go_ret
      exact ⟨A', c', rfl, HO.out, hx⟩
end Go.Proofs.Ytjnobdcbbboeeaa
