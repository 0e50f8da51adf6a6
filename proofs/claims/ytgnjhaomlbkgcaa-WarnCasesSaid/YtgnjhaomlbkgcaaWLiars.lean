/- The walks of slices.Contains over numbers, fewest, Liars, Needed. -/
import Derived.Test.YtgnjhaomlbkgcaaWFew
import Derived.WalkMore
namespace Go.Proofs.Ytgnjhaomlbkgcaa
open Go Go.RowKit Go.Shelf
set_option linter.unusedVariables false
set_option linter.unusedSimpArgs false

def memI (x : Int) (l : List Int) : Bool := l.any fun y => x == y

theorem indexI_any (x : Int) (A : Option Addr) (c : Nat) (l : List Int) (w : World) (hA : Ints w A l) (hl : l.length ≤ 9223372036854775807) :
    Calls Try.prog 93 #[.slice A l.length c, .int .i64 x] w fun e w' => e = .returned (.int .i64 (idxF (fun y => x == y) l 0)) ∧ w' = w := by
  have HF : Hid (idxF (fun y => x == y) l 0 = idxF (fun y => x == y) (l.drop 0) 0) := rfl
  generalize hF : idxF (fun y => x == y) l 0 = F at HF ⊢
  clear hF
  have HA := hid hA
  clear hA
  go_enter Try.func93, Try.ntmps93
  go_wp2
  go_loop [8] (fun s => ∃ k : Nat, k ≤ l.length ∧ s = .int .i64 (k : Int) ∧ Hid (F = idxF (fun y => x == y) (l.drop k) k)) (fun i => l.length - (intOf i).toNat)
  case atStart => exact ⟨0, Nat.zero_le _, rfl, HF⟩
  case round =>
    obtain ⟨k, hk, rfl, HF⟩ := hrel
    by_cases hlt : k < l.length
    · have hlt' : (k : Int) < (l.length : Int) := by omega
      obtain ⟨y, hy⟩ := get_of_lt l k hlt
      obtain ⟨b, off, rfl, e0⟩ := Ints.at_ HA.out hy
      have HD : Hid (F = if x == y then (k : Int) else idxF (fun y => x == y) (l.drop (k + 1)) (k + 1)) := by
        unfold Hid
        rw [HF.out, idxF_drop _ l k y hy]
      clear hy HF
      by_cases hxy : x = y
      · have HQ : Hid (F = (k : Int)) := by unfold Hid; rw [HD.out]; simp [hxy]
        clear HD
        subst hxy
        go_wp2
        go_ret
        exact ⟨ret_of (int_of HQ.out.symm), rfl⟩
      · have HQ : Hid (F = idxF (fun y => x == y) (l.drop (k + 1)) (k + 1)) := by unfold Hid; rw [HD.out]; simp [hxy]
        clear HD
        go_wp2
        go_round
        case rel => exact ⟨k + 1, by omega, by go_num, HQ⟩
        case measure => simp [intOf]; omega
    · have hlt' : ¬ (k : Int) < (l.length : Int) := by omega
      have HQ : Hid (F = -1) := by unfold Hid; rw [HF.out, idxF_end _ l k (by omega)]
      clear HF
      go_wp2
      go_ret
      exact ⟨ret_of (int_of HQ.out.symm), rfl⟩

theorem containsI_any (x : Int) (A : Option Addr) (c : Nat) (l : List Int) (w : World) (hA : Ints w A l) (hl : l.length ≤ 9223372036854775807) :
    Calls Try.prog 31 #[.slice A l.length c, .int .i64 x] w fun e w' => e = .returned (.bool (memI x l)) ∧ w' = w := by
  have H := hid (idxF_nonneg (fun y => x == y) l 0)
  go_enter Try.func31, Try.ntmps31
  go_wp2_with fail
  refine (indexI_any x A c l w hA hl).mono ?_
  rintro e w1 ⟨rfl, rfl⟩
  go_wp2
  go_ret
  exact ⟨ret_of (bool_of H.out), rfl⟩

/-! fewest -/
set_option maxRecDepth 100000 in
set_option maxHeartbeats 2000000 in
theorem fewest_any (v : Value) (c : Cs) (fv : Value) (p : List Int → Bool) (wi : Nat) (w : World) (hwi : wi ≤ 6) (hcw : c.wi = wi) (hc : CsR w v c) (hfv : FnP Try.prog fv w IntsR (fun l => l.length ≤ 6) p) :
    Calls Try.prog 111 #[v, fv] w fun e w' => ∃ ov, e = .returned (.tuple #[ov, .bool (fewL p wi).isSome]) ∧ Ext w w' ∧ ∀ r, fewL p wi = some r → ∃ A' c', ov = .slice A' r.length c' ∧ Ints w' A' r := by
  obtain ⟨A1, c1, A2, c2, rfl, hB, hC⟩ := hc
  have hff : ∃ g fst lb, fv = .func (.func g) fst lb := by obtain ⟨g, fst, lb, h, _⟩ := hfv; exact ⟨g, fst, lb, h⟩
  obtain ⟨g, fst, lb, rfl⟩ := hff
  generalize hR : fewL p wi = R
  have HR : Hid (tryL (fun many => moreL p wi many [] 0) 0 (wi + 1) = R) := hR
  clear hR
  rw [hcw]
  go_enter Try.func111, Try.ntmps111
  go_wp2
  go_step3
  go_wp2
  go_step3
  go_wp2
  obtain ⟨W0, hW0⟩ : ∃ W0, ((w.alloc (.cells #[.int .i64 c.ev, .slice A1 c.bs.length c1, .int .i64 (wi : Int), .slice A2 c.cl.length c2] 26)).alloc (.cells #[.func (.func g) fst lb] 52)).alloc (.cells #[.slice none 0 0] 27) = W0 := ⟨_, rfl⟩
  have hX0 : Ext w W0 := by rw [← hW0]; exact (((Ext.refl w).alloc _).alloc _).alloc _
  have hC0 : W0.cell? ⟨w.heap.size, 2, none⟩ = some (.int .i64 (wi : Int)) := by rw [← hW0]; simp [go_sem]
  have hD0 : W0.cell? ⟨w.heap.size + 1, 0, none⟩ = some (.func (.func g) fst lb) := by rw [← hW0]; simp [go_sem]
  have hO0 : W0.heap[w.heap.size + 1 + 1]? = some (.cells #[.slice none 0 0] 27 (0, 0)) := by
    rw [← hW0]
    have h1 := World.alloc_heap_new ((w.alloc (.cells #[.int .i64 c.ev, .slice A1 c.bs.length c1, .int .i64 (wi : Int), .slice A2 c.cl.length c2] 26)).alloc (.cells #[.func (.func g) fst lb] 52)) (.cells #[.slice none 0 0] 27)
    simp only [World.size_alloc] at h1
    exact h1
  rw [hW0]
  clear hW0
  go_loopw [7, 13] (fun fnd i wr => ∃ m : Nat, m ≤ wi + 1 ∧ i = .int .i64 (m : Int) ∧ fnd = .bool false ∧ Hid (tryL (fun many => moreL p wi many [] 0) m (wi + 1 - m) = R) ∧ Bel (w.heap.size + 1 + 1) W0 wr ∧ ∃ ov, wr.heap[w.heap.size + 1 + 1]? = some (.cells #[ov] 27 (0, 0))) (fun _ i _ => wi + 1 - (intOf i).toNat)
  case atStart => exact ⟨0, Nat.zero_le _, rfl, rfl, HR, Bel.refl _ _, _, hO0⟩
  case round =>
    obtain ⟨m, hm, rfl, rfl, HR, hbl, ov, hov⟩ := hrel
    have hC1 := hbl.cell hC0 (by simp; omega)
    have hD1 := hbl.cell hD0 (by simp)
    have hx1 := hX0.then_bel (by omega) hbl
    have hov1 : wr.cell? ⟨w.heap.size + 1 + 1, 0, none⟩ = some ov := by rw [cell_of_row wr _ 0 _ _ _ hov]; rfl
    have hOlt := (Array.getElem?_eq_some_iff.1 hov).1
    by_cases hlt : m < wi + 1
    · have hlt' : (m : Int) < (wi : Int) + 1 := by omega
      obtain ⟨Wa, hWa⟩ : ∃ Wa, wr.alloc (.cells #[.func (.func 142) #[] #[.pointer (some ⟨w.heap.size + 1 + 1, 0, none⟩), .pointer (some ⟨w.heap.size + 1, 0, none⟩), .pointer (some ⟨w.heap.size, 0, none⟩), .pointer (some ⟨wr.heap.size, 0, none⟩)]] 177) = Wa := ⟨_, rfl⟩
      have hxa : Ext wr Wa := by rw [← hWa]; exact Ext.alloc (Ext.refl _) _
      have hMa : Wa.cell? ⟨wr.heap.size, 0, none⟩ = some (.func (.func 142) #[] #[.pointer (some ⟨w.heap.size + 1 + 1, 0, none⟩), .pointer (some ⟨w.heap.size + 1, 0, none⟩), .pointer (some ⟨w.heap.size, 0, none⟩), .pointer (some ⟨wr.heap.size, 0, none⟩)]) := by rw [← hWa]; simp [go_sem]
      have hcall := more_any p wi (w.heap.size + 1 + 1) (w.heap.size + 1) w.heap.size wr.heap.size (.func (.func g) fst lb) w hwi hfv (by omega) (by omega) (by omega) (by omega) m [] 0 none 0 0 Wa rfl (by simp; omega) (by omega) (hx1.trans hxa).kc (Ints.nil _ _) (fun a e => by cases e) ⟨ov, (Below.block hxa _ hOlt).trans hov⟩ hMa (hxa.cell hD1) (hxa.cell hC1)
      simp only [Int.natCast_zero] at hcall
      have HC := hid hcall
      clear hcall
      have HRN : Hid ((match moreL p wi m [] 0 with | some r => some r | none => tryL (fun many => moreL p wi many [] 0) (m + 1) (wi + 1 - (m + 1))) = R) := by
        unfold Hid
        rw [← HR.out, show wi + 1 - m = (wi + 1 - (m + 1)) + 1 by omega]
        rfl
      have hba : Bel (w.heap.size + 1 + 1) W0 Wa := hbl.trans hxa.bel
      clear HR
      go_wp2_with fail
      try rw [hWa]
      clear hWa
      refine HC.out.mono ?_
      rintro e W4 ⟨rfl, hb4, ov4, ho4, hr4⟩
      have hb5 := hba.trans hb4
      have hx5 := hX0.then_bel (by omega) hb5
      have hoc4 : W4.cell? ⟨w.heap.size + 1 + 1, 0, none⟩ = some ov4 := by rw [cell_of_row W4 _ 0 _ _ _ ho4]; rfl
      cases hq : moreL p wi m [] 0 with
      | some r =>
        have HQ : Hid (some r = R) := by unfold Hid; rw [← HRN.out, hq]
        obtain ⟨A5, c5, rfl, hI5, _⟩ := hr4 r hq
        clear hq HRN hr4
        go_wp2
        (try rw [Exit.noGoto_ret])
        go_ret2
        exact ⟨_, by rw [← HQ.out]; rfl, hx5, fun r' hr' => by rw [← HQ.out] at hr'; cases hr'; exact ⟨A5, c5, rfl, hI5⟩⟩
      | none =>
        have HQ : Hid (tryL (fun many => moreL p wi many [] 0) (m + 1) (wi + 1 - (m + 1)) = R) := by unfold Hid; rw [← HRN.out, hq]
        clear hq HRN hr4
        go_wp2
        go_roundw
        case rel => exact ⟨m + 1, by omega, by go_num, rfl, HQ, hb5, ov4, ho4⟩
        case measure => simp [intOf]; omega
    · have hlt' : ¬ (m : Int) < (wi : Int) + 1 := by omega
      have HQ : Hid (none = R) := by unfold Hid; rw [← HR.out, show wi + 1 - m = 0 by omega]; rfl
      clear HR
      go_wp2
      (try rw [Exit.noGoto_ret])
      go_ret2
      exact ⟨ov, by rw [← HQ.out]; rfl, hx1, fun r hr => by rw [← HQ.out] at hr; cases hr⟩
end Go.Proofs.Ytgnjhaomlbkgcaa
