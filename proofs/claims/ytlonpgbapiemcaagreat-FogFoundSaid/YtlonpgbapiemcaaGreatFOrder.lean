/- The heap's Order: the numbers below n in some order. -/
import Derived.Test.YtlonpgbapiemcaaGreatFIns
import Derived.Test.YtlonpgbapiemcaaGreatFWalkd
namespace Go.Proofs.YtlonpgbapiemcaaGreat
open Go Go.RowKit Go.Shelf
set_option linter.unusedVariables false
set_option linter.unusedSimpArgs false

/-- Different numbers below n, so many. -/
structure OrdL (l : List Int) (n : Nat) : Prop where
  len : l.length = n
  nd : l.Nodup
  lt : ∀ y ∈ l, 0 ≤ y ∧ y < n
theorem OrdL.next {l : List Int} {k : Nat} (h : OrdL l k) {i : Nat} (hi : i ≤ k) : OrdL (insL l i k) (k + 1) where
  len := by rw [insL_len _ (by rw [h.len]; exact hi), h.len]
  nd := insL_nodup h.nd (fun hm => by have := h.lt _ hm; omega)
  lt := fun y hy => by
    rcases insL_mem.1 hy with rfl | hy
    · omega
    · have := h.lt y hy; omega
def OrderP (D : Nat) (w : World) (n : Nat) (e : Ending) (w' : World) : Prop :=
  ∃ l A c B, e = .returned (.slice A n c) ∧ OrdL l n ∧ w.heap.size ≤ B ∧ w'.ownsRow B 3 1 (.slice A n c) n (l.map (.int .i64)) ∧ Bel D w w' ∧ HeapR w' D
set_option maxRecDepth 100000 in
set_option maxHeartbeats 4000000 in
theorem dealOrder_any (D n : Nat) (w : World) (hh : HeapR w D) (hn : n ≤ 100) :
    Calls Tryz.prog 37 #[.pointer (some ⟨D, 0, none⟩), .int .i64 (n : Int)] w (OrderP D w n) := by
  have hn0 : ¬ (n : Int) < 0 := by omega
  have hn1 : (0 : Int) ≤ (n : Int) := by omega
  have hmx : max (0 : Int) (n : Int) = (n : Int) := by omega
  have hDw := hh.lt
  have O0 := hid (own_nil w w.heap.size 3 1)
  have HL0 : Hid (OrdL [] 0) := ⟨rfl, List.nodup_nil, fun y h => by cases h⟩
  go_enter Tryz.func37, Tryz.ntmps37
  go_wp2
  go_loopw [9, 5] (fun i9 i5 wr => ∃ (k : Nat) (l : List Int) (A : Option Addr) (c : Nat), k ≤ n ∧ i9 = .int .i64 (k : Int) ∧ i5 = .slice A k c ∧ Hid (OrdL l k) ∧ Hid (wr.ownsRow w.heap.size 3 1 (.slice A k c) k (l.map (.int .i64))) ∧ Bel D w wr ∧ HeapR wr D) (fun i _ _ => n - (intOf i).toNat)
  case atStart => exact ⟨0, [], none, 0, Nat.zero_le _, (by first | rfl | (simp; omega)), rfl, HL0, O0, Bel.refl _ _, hh⟩
  case round =>
    obtain ⟨k, l, A, c, hk, rfl, rfl, HL, O, hb, hh⟩ := hrel
    by_cases hlt : k < n
    · have hlt' : (k : Int) < (n : Int) := by omega
      go_wp2_with fail
      refine (upto_any D (k : Int) wr hh (by omega) (by omega)).mono ?_
      rintro e w3 ⟨y, rfl, y0, y1, hbr3, hh3⟩
      obtain ⟨i, rfl⟩ : ∃ i : Nat, y = i := ⟨y.toNat, by omega⟩
      have hik : i ≤ k := by omega
      have O3 := hid (Deal_own hh O.out hbr3)
      obtain ⟨w4, hw4⟩ : ∃ w4, w3.alloc (.cells #[.int .i64 (k : Int)] 3) = w4 := ⟨_, rfl⟩
      have hx4 : Ext w3 w4 := by rw [← hw4]; exact Ext.alloc (Ext.refl _) _
      have hz4 : w4.heap.size = w3.heap.size + 1 := by rw [← hw4]; simp
      have hN : w4.heap[w3.heap.size]? = some (.cells #[.int .i64 (k : Int)] 3 (0, 0)) := by rw [← hw4]; exact heap_alloc_new w3 _
      have hAb : ∀ a, A = some a → w.heap.size ≤ a.block ∧ a.block < w3.heap.size := own_block_lt O3.out
      have hll := HL.out.len
      have hwr := hb.size
      have hw3 := hbr3.size
      have K := insert_any w.heap.size A c l i w3.heap.size (k : Int) w4 (by rw [hll]; exact own_below O3.out hx4) (by omega) (by omega) (by omega) (fun a ha => by have := hAb a ha; omega) hN
      unfold InsPost at K
      rw [hll] at K
      have HK := hid K
      clear K hN O
      go_wp2_with fail
      try rw [hw4]
      clear hw4
      refine HK.out.mono ?_
      clear HK
      rintro e w5 ⟨A5, c5, rfl, ho5, hS5⟩
      have hAo : ∀ g, (Value.slice A k c).ownBlock = some g → w.heap.size ≤ g := fun g hg => by
        obtain ⟨a, ha, he⟩ := slice_own hg
        have h1 := hAb a ha
        omega
      have hh5 : HeapR w5 D := (hh3.ext hx4).belS hS5 (fun j hj e => by have := hAo j e; omega)
      have hb5 : Bel D w w5 := ((hb.trans hbr3).trans hx4.bel).then_ hS5 (fun i hi e => by have := hAo i e; omega)
      have O5 := hid ho5
      have HL5 := hid (HL.out.next hik)
      clear ho5 HL hS5 hAo hAb O3
      go_wp2
      go_roundw
      case rel => exact ⟨k + 1, _, A5, c5, by omega, by go_num, rfl, HL5, O5, hb5, hh5⟩
      case measure => simp [intOf]; omega
    · have hlt' : ¬ (k : Int) < (n : Int) := by omega
      obtain rfl : k = n := by omega
      go_wp2
      go_ret
      exact ⟨l, A, c, w.heap.size, rfl, HL.out, Nat.le_refl _, O.out, hb, hh⟩
end Go.Proofs.YtlonpgbapiemcaaGreat
