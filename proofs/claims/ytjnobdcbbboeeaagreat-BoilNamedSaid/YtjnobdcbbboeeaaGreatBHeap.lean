/- The heap that deals numbers (laurelkit): Pile, pick, Upto, From, Once. What numbers it deals is left open. -/
import Derived.Test.YtjnobdcbbboeeaaGreatH2
import Derived.Test.YtjnobdcbbboeeaaGreatProg
namespace Go.Proofs.YtjnobdcbbboeeaaGreat
open Go Go.RowKit
set_option linter.unusedVariables false
set_option linter.unusedSimpArgs false

def Bytes (w : World) (A : Option Addr) (l : List Int) : Prop := Rd w A (l.map (.int .u8))
/-- Block D is a heap. -/
def HeapR (w : World) (D : Nat) : Prop :=
  ∃ A l cap nx rd, w.heap[D]? = some (.cells #[.slice A l.length cap, .int .i64 nx, .int .u32 rd] 72 (0, 0)) ∧ Bytes w A l ∧ (∀ x ∈ l, 0 ≤ x ∧ x ≤ 255) ∧ (∀ a, A = some a → l = [] ∨ a.block < D) ∧ 0 ≤ nx ∧ (nx < l.length ∨ nx = 0) ∧ 0 ≤ rd ∧ rd ≤ 4294967295 ∧ l.length ≤ 9223372036854775807
theorem HeapR.lt {w : World} {D : Nat} (h : HeapR w D) : D < w.heap.size := by
  obtain ⟨A, l, cap, nx, rd, h, _⟩ := h
  exact (Array.getElem?_eq_some_iff.1 h).1
theorem HeapR.below {w w' : World} {D B : Nat} (h : HeapR w D) (hx : Below B w w') (hD : D < B) : HeapR w' D := by
  obtain ⟨A, l, cap, nx, rd, h1, h2, h3, h4, h5⟩ := h
  refine ⟨A, l, cap, nx, rd, (Below.block hx D hD).trans h1, ?_, h3, h4, h5⟩
  rcases h2 with h2 | ⟨b, off, rfl, hc⟩
  · exact .inl h2
  · rcases h4 ⟨b, off, none⟩ rfl with hl0 | hb
    · exact .inl (by rw [hl0]; rfl)
    refine .inr ⟨b, off, rfl, fun j u hu => ?_⟩
    simp only at hb
    exact (hx.cell (p := ⟨b, off + j, none⟩) (by show b < B; omega)).trans (hc j u hu)
theorem HeapR.ext {w w' : World} {D : Nat} (h : HeapR w D) (hx : Ext w w') : HeapR w' D := h.below hx h.lt
theorem HeapR.bel {w w' : World} {D K : Nat} (h : HeapR w D) (hx : Bel K w w') (hK : D < K) : HeapR w' D := by
  obtain ⟨A, l, cap, nx, rd, h1, h2, h3, h4, h5⟩ := h
  refine ⟨A, l, cap, nx, rd, (hx.2 D (Array.getElem?_eq_some_iff.1 h1).1 (by omega)).trans h1, ?_, h3, h4, h5⟩
  rcases h2 with h2 | ⟨b, off, rfl, hc⟩
  · exact .inl h2
  · rcases h4 ⟨b, off, none⟩ rfl with hl0 | hb
    · exact .inl (by rw [hl0]; rfl)
    refine .inr ⟨b, off, rfl, fun j u hu => ?_⟩
    simp only at hb
    exact hx.cell (hc j u hu) (by show b ≠ K; omega)

theorem and15 (x : Int) : 0 ≤ bits .and .u32 x 32767 ∧ bits .and .u32 x 32767 ≤ 32767 := by
  have h1 : (BitVec.ofInt 32 x &&& BitVec.ofInt 32 32767).toNat ≤ 32767 := by
    rw [BitVec.toNat_and]
    exact Nat.le_trans Nat.and_le_right (by decide)
  have h2 : bits .and .u32 x 32767 = IntKind.u32.wrap ((BitVec.ofInt 32 x &&& BitVec.ofInt 32 32767).toNat : Int) := rfl
  rw [h2, IntWalk.u32_in _ (by omega)]
  omega
theorem Bel.drewN {D : Nat} {a w : World} (h : Bel D a w) (n : Nat) : Bel D a (w.drewN n) := h.trans (Ext.bel (Ext.drewN (Ext.refl _) n))
theorem heap_drewN (w : World) (n k : Nat) : (w.drewN n).heap[k]? = w.heap[k]? := rfl
theorem heap_set {w : World} {D i : Nat} {cs : Array Value} {T : TypeId} (h : w.heap[D]? = some (.cells cs T (0, 0))) (v : Value) : (w.setCell ⟨D, i, none⟩ v).heap[D]? = some (.cells (cs.setIfInBounds i v) T (0, 0)) := by
  simp [World.setCell, Array.getElem?_modify, h]
theorem Bytes.cel {D : Nat} {w w' : World} {A : Option Addr} {l : List Int} (h : Bytes w A l) (hA : ∀ a, A = some a → l = [] ∨ a.block < D) (hb : Bel D w w') : Bytes w' A l := by
  rcases h with h2 | ⟨b, off, rfl, hc⟩
  · exact .inl h2
  · rcases hA ⟨b, off, none⟩ rfl with hl0 | hb2
    · exact .inl (by rw [hl0]; rfl)
    refine .inr ⟨b, off, rfl, fun j u hu => ?_⟩
    simp only at hb2
    exact hb.cell (hc j u hu) (by show b ≠ D; omega)

set_option maxRecDepth 100000 in
set_option maxHeartbeats 1000000 in
theorem pick_any (D : Nat) (w : World) (h : HeapR w D) : Calls Tryz.prog 53 #[.pointer (some ⟨D, 0, none⟩)] w fun e w' => ∃ k : Int, e = .returned (.int .i64 k) ∧ 0 ≤ k ∧ k ≤ 32767 ∧ Bel D w w' ∧ HeapR w' D := by
  obtain ⟨A, l, cap, nx, rd, h1, h2, h3, h4, h5, h6, h7, h8, h9⟩ := h
  have c0 : w.cell? ⟨D, 0, none⟩ = some (.slice A l.length cap) := by rw [cell_of_row w D 0 _ _ _ h1]; rfl
  have c1 : w.cell? ⟨D, 1, none⟩ = some (.int .i64 nx) := by rw [cell_of_row w D 1 _ _ _ h1]; rfl
  have c2 : w.cell? ⟨D, 2, none⟩ = some (.int .u32 rd) := by rw [cell_of_row w D 2 _ _ _ h1]; rfl
  have f0 : ∀ i, w.frozen? ⟨D, i, none⟩ = false := fun i => by simp [World.frozen?, h1]
  go_enter Tryz.func53, Tryz.ntmps53
  go_wp2
  have hD := hid h1
  clear h1
  by_cases hlt : nx < l.length
  · obtain ⟨j, rfl⟩ : ∃ j : Nat, nx = j := ⟨nx.toNat, by omega⟩
    have hjl : j < l.length := by omega
    obtain ⟨x, hx⟩ := get_of_lt l j hjl
    have hx2 := h3 x (mem_of_get hx)
    obtain ⟨b, off, rfl, hcx⟩ := Rd.at_ h2 (by intro e; have := congrArg List.length e; simp at this; subst this; simp at hjl)
    have hcj := hcx j (.int .u8 x) (by simp [hx])
    clear hcx hx
    have hlt' : decide ((j : Int) < (l.length : Int)) = true := by simpa using hlt
    have hlt2 : (j : Int) < (l.length : Int) := hlt
    have hbD : b ≠ D := by
      rcases h4 ⟨b, off, none⟩ rfl with hl0 | hb
      · subst hl0; simp at hjl
      · simp only at hb; omega
    go_quiet (fail)
    go_wp2
    go_quiet (fail)
    go_wp2
    obtain ⟨N, hN⟩ : ∃ N : Int, (40503 * ((rd + 1) % 4294967296) % 4294967296 + 331 * x) % 4294967296 = N := ⟨_, rfl⟩
    rw [hN]
    have hN2 : 0 ≤ N ∧ N ≤ 4294967295 := by omega
    clear hN
    by_cases hge : (l.length : Int) ≤ (j : Int) + 1
    · have hge' : decide ((j : Int) + 1 ≥ (l.length : Int)) = true := by simpa using hge
      go_quiet (fail)
      go_wp2
      obtain ⟨q1, q2⟩ := and15 (bits BinOp.xor IntKind.u32 N (N / 512))
      go_ret
      refine ⟨_, ret_of (int_of (IntWalk.wrap64_in _ (by omega))), q1, q2, ?bl, ?hp⟩
      case bl => exact (((((Bel.refl D w).drewN _).setCell _ _).drewN _).setCell _ _).setCell _ _
      case hp =>
        refine ⟨_, l, cap, 0, (rd + 1) % 4294967296, heap_set (heap_set (heap_set (hD.out) _) _) _, ?_, h3, h4, by omega, by omega, by omega, by omega, h9⟩
        exact h2.cel h4 ((((((Bel.refl D w).drewN _).setCell _ _).drewN _).setCell _ _).setCell _ _)
    · have hge' : decide ((j : Int) + 1 ≥ (l.length : Int)) = false := by simpa using hge
      go_quiet (fail)
      go_wp2
      obtain ⟨q1, q2⟩ := and15 (bits BinOp.xor IntKind.u32 N (N / 512))
      go_ret
      refine ⟨_, ret_of (int_of (IntWalk.wrap64_in _ (by omega))), q1, q2, ?bl, ?hp⟩
      case bl => exact ((((Bel.refl D w).drewN _).setCell _ _).drewN _)
      case hp =>
        refine ⟨_, l, cap, (j : Int) + 1, rd, heap_set (hD.out) _, ?_, h3, h4, by omega, by omega, by omega, by omega, h9⟩
        exact h2.cel h4 ((((Bel.refl D w).drewN _).setCell _ _).drewN _)
  · have hlt' : decide (nx < (l.length : Int)) = false := by simpa using hlt
    have hge' : decide (nx + 1 ≥ (l.length : Int)) = true := by simp; omega
    go_quiet (fail)
    go_wp2
    obtain ⟨N, hN⟩ : ∃ N : Int, 40503 * ((rd + 1) % 4294967296) % 4294967296 = N := ⟨_, rfl⟩
    rw [hN]
    have hN2 : 0 ≤ N ∧ N ≤ 4294967295 := by omega
    clear hN
    go_quiet (fail)
    go_wp2
    obtain ⟨q1, q2⟩ := and15 (bits BinOp.xor IntKind.u32 N (N / 512))
    go_ret
    refine ⟨_, ret_of (int_of (IntWalk.wrap64_in _ (by omega))), q1, q2, ?bl, ?hp⟩
    case bl => exact (((((Bel.refl D w).drewN _).setCell _ _).drewN _).setCell _ _).setCell _ _
    case hp =>
      refine ⟨_, l, cap, 0, (rd + 1) % 4294967296, heap_set (heap_set (heap_set (hD.out) _) _) _, ?_, h3, h4, by omega, by omega, by omega, by omega, h9⟩
      exact h2.cel h4 ((((((Bel.refl D w).drewN _).setCell _ _).drewN _).setCell _ _).setCell _ _)

theorem upto_any (D : Nat) (n : Int) (w : World) (h : HeapR w D) (h0 : -1000000000 ≤ n) (h1 : n ≤ 1000000000) : Calls Tryz.prog 19 #[.pointer (some ⟨D, 0, none⟩), .int .i64 n] w fun e w' => ∃ k : Int, e = .returned (.int .i64 k) ∧ 0 ≤ k ∧ (k = 0 ∨ k ≤ n) ∧ Bel D w w' ∧ HeapR w' D := by
  go_enter Tryz.func19, Tryz.ntmps19
  go_wp2_with fail
  refine (pick_any D w h).mono ?_
  rintro e w1 ⟨k, rfl, k0, k1, hb, hh⟩
  by_cases hn : n < 1
  · have hm : max 1 (n + 1) = 1 := by omega
    have hm2 : ¬ (1 : Int) < n + 1 := by omega
    go_wp2
    go_ret
    exact ⟨0, rfl, by omega, .inl rfl, hb, hh⟩
  · have hm2 : (1 : Int) ≤ n + 1 := by omega
    have hm3 : max 1 (n + 1) = n + 1 := by omega
    have hm4 : ¬ (n + 1 : Int) < 1 := by omega
    go_wp2
    go_ret
    exact ⟨k % (n + 1), rfl, Int.emod_nonneg _ (by omega), .inr (by have := Int.emod_lt_of_pos k (show 0 < n + 1 by omega); omega), hb, hh⟩

theorem from_any (D : Nat) (lo hi : Int) (w : World) (h : HeapR w D) (h0 : -100000000 ≤ lo) (h1 : lo ≤ 100000000) (h2 : -100000000 ≤ hi) (h3 : hi ≤ 100000000) : Calls Tryz.prog 18 #[.pointer (some ⟨D, 0, none⟩), .int .i64 lo, .int .i64 hi] w fun e w' => ∃ k : Int, e = .returned (.int .i64 k) ∧ lo ≤ k ∧ (k = lo ∨ k ≤ hi) ∧ Bel D w w' ∧ HeapR w' D := by
  go_enter Tryz.func18, Tryz.ntmps18
  go_wp2_with fail
  refine (upto_any D (hi - lo) w h (by omega) (by omega)).mono ?_
  rintro e w1 ⟨k, rfl, k0, k1, hb, hh⟩
  have hk : k ≤ 1000000000 := by omega
  go_wp2
  go_ret
  exact ⟨lo + k, rfl, by omega, by omega, hb, hh⟩

theorem once_any (D : Nat) (n : Int) (w : World) (h : HeapR w D) (h0 : 0 ≤ n) (h1 : n ≤ 100000000) : Calls Tryz.prog 26 #[.pointer (some ⟨D, 0, none⟩), .int .i64 n] w fun e w' => ∃ b : Bool, e = .returned (.bool b) ∧ Bel D w w' ∧ HeapR w' D := by
  go_enter Tryz.func26, Tryz.ntmps26
  go_wp2_with fail
  refine (upto_any D (n - 1) w h (by omega) (by omega)).mono ?_
  rintro e w1 ⟨k, rfl, k0, k1, hb, hh⟩
  go_wp2
  go_ret
  exact ⟨_, rfl, hb, hh⟩

theorem pile_any (A : Option Addr) (l : List Int) (cap : Nat) (w : World) (hA : Bytes w A l) (hl : ∀ x ∈ l, 0 ≤ x ∧ x ≤ 255) (hlt : ∀ a, A = some a → l = [] ∨ a.block < w.heap.size) (hn : l.length ≤ 9223372036854775807) :
    Calls Tryz.prog 5 #[.slice A l.length cap] w fun e w' => ∃ D, e = .returned (.pointer (some ⟨D, 0, none⟩)) ∧ w.heap.size ≤ D ∧ Ext w w' ∧ HeapR w' D := by
  go_enter Tryz.func5, Tryz.ntmps5
  go_wp2
  go_ret
  refine ⟨w.heap.size, rfl, Nat.le_refl _, Ext.alloc (Ext.refl w) _, A, l, cap, 0, 0, heap_alloc_new w _, ?_, hl, hlt, by omega, by omega, by omega, by omega, hn⟩
  exact Rd.ext hA (Ext.alloc (Ext.refl w) _)
theorem HeapR.belS {S : Nat → Prop} {w w' : World} {D : Nat} (h : HeapR w D) (hx : BelS S w w') (hS : ∀ k, k ≤ D → ¬ S k) : HeapR w' D := by
  obtain ⟨A, l, cap, nx, rd, h1, h2, h3, h4, h5⟩ := h
  refine ⟨A, l, cap, nx, rd, hx.heap h1 (hS D (Nat.le_refl _)), ?_, h3, h4, h5⟩
  by_cases hl0 : l = []
  · subst hl0; exact .inl rfl
  · exact hx.rd h2 (fun a ha => hS _ (Nat.le_of_lt ((h4 a ha).resolve_left hl0)))
/-- What a call that deals numbers does: nothing but to the heap. -/
def Deal (D : Nat) (w w' : World) : Prop := Bel D w w' ∧ (HeapR w D → HeapR w' D)
theorem Deal.refl (D : Nat) (w : World) : Deal D w w := ⟨Bel.refl _ _, fun h => h⟩
theorem Deal.trans {D : Nat} {a b c : World} (h : Deal D a b) (k : Deal D b c) : Deal D a c := ⟨h.1.trans k.1, fun x => k.2 (h.2 x)⟩
theorem Deal.mk' {D : Nat} {w w' : World} (h : Bel D w w') (k : HeapR w' D) : Deal D w w' := ⟨h, fun _ => k⟩
theorem Deal.ext {D : Nat} {w w' : World} (h : Ext w w') : Deal D w w' := ⟨h.bel, fun k => k.ext h⟩
end Go.Proofs.YtjnobdcbbboeeaaGreat
