/- The walks of Horn and awake. -/
import Derived.Test.YtgnjhaomlbkgcaaWHornP
import Derived.Test.YtgnjhaomlbkgcaaEqI
import Derived.Test.YtgnjhaomlbkgcaaWMade
import Derived.Laws.ResultCell
namespace Go.Proofs.Ytgnjhaomlbkgcaa
open Go Go.RowKit Go.Shelf
set_option linter.unusedVariables false
set_option linter.unusedSimpArgs false


set_option maxRecDepth 100000 in
set_option maxHeartbeats 1000000 in
theorem horn_any (A : Option Addr) (k : Nat) (l : List Cl) (w : World) (hA : Claims w A l) :
    Calls Try.prog 83 #[.slice A l.length k] w fun e w' => ∃ v, e = .returned v ∧ CsR w' v (hornC l) ∧ Ext w w' := by
  go_enter Try.func83, Try.ntmps83
  go_wp2
  have hB : (((w.alloc (.cells #[.int .i64 4, .slice (some ⟨w.heap.size + 1, 0, none⟩) 6 6, .int .i64 2, .slice A l.length k] 26)).alloc (.cells (bcells (hornC l).bs).toArray 35))).heap[w.heap.size + 1]? = some (.cells (bcells (hornC l).bs).toArray 35 (0, 0)) := by
    have := heap_alloc_new (w.alloc (.cells #[.int .i64 4, .slice (some ⟨w.heap.size + 1, 0, none⟩) 6 6, .int .i64 2, .slice A l.length k] 26)) (.cells (bcells (hornC l).bs).toArray 35)
    simpa using this
  have hx := Ext.alloc (Ext.alloc (Ext.refl w) (.cells #[.int .i64 4, .slice (some ⟨w.heap.size + 1, 0, none⟩) 6 6, .int .i64 2, .slice A l.length k] 26)) (.cells (bcells (hornC l).bs).toArray 35)
  refine bodyPost_ret (v := .agg #[.int .i64 4, .slice (some ⟨w.heap.size + 1, 0, none⟩) 6 6, .int .i64 2, .slice A l.length k]) ?_ rfl ⟨_, rfl, ⟨some ⟨w.heap.size + 1, 0, none⟩, 6, A, k, rfl, rd_block hB, hA.ext hx⟩, hx⟩
  simp [results, Try.results83, go_sem]

theorem own_one_claim (w : World) (B C : Nat) (hB : w.heap[B]? = some (.cells #[.int .i64 1, .int .i64 0, .int .i64 (-50)] 35 (0, 0))) (hC : w.heap[C]? = some (.cells #[.int .i64 0, .slice (some ⟨B, 0, none⟩) 1 1] 37 (0, 0))) : Claims w (some ⟨C, 0, none⟩) lieL := by
  refine ⟨_, rd_block (xs := [.int .i64 0, .slice (some ⟨B, 0, none⟩) 1 1]) hC, rfl, ⟨some ⟨B, 0, none⟩, 1, rfl, ?_⟩, trivial⟩
  exact rd_block (xs := bcells [⟨1, 0, -50⟩]) hB
theorem horn_sized (l : List Cl) (h : l = [] ∨ l = lieL) : (hornC l).sized := by
  rcases h with rfl | rfl <;> exact ⟨by decide, by decide, by decide⟩

set_option maxRecDepth 100000 in
set_option maxHeartbeats 4000000 in
theorem awake_any (w : World) : Calls Try.prog 22 #[] w fun e w' => e = .returned (.bool true) ∧ Ext w w' := by
  have z0 := horn_sized [] (.inl rfl)
  have z1 := horn_sized lieL (.inr rfl)
  go_enter Try.func22, Try.ntmps22
  go_wp2_with fail
  refine (horn_any none 0 [] w (Claims.nil w none)).mono ?_
  rintro e w1 ⟨v1, rfl, h1, x1⟩
  go_wp2_with fail
  refine (gap_any v1 (hornC []) 0 2 w1 h1 z0).mono ?_
  rw [horn_gap]
  rintro e w2 ⟨rfl, x2⟩
  have y2 := x1.trans x2
  clear x1 x2 h1
  go_wp2_with fail
  refine (horn_any none 0 [] w2 (Claims.nil w2 none)).mono ?_
  rintro e w3 ⟨v3, rfl, h3, x3⟩
  go_wp2_with fail
  refine (before_any v3 (hornC []) 2 3 w3 h3 z0).mono ?_
  rw [horn_before]
  rintro e w4 ⟨rfl, x4⟩
  have y4 := y2.trans (x3.trans x4)
  clear x3 x4 h3 y2
  go_wp2_with fail
  refine (horn_any none 0 [] w4 (Claims.nil w4 none)).mono ?_
  rintro e w5 ⟨v5, rfl, h5, x5⟩
  go_wp2_with fail
  refine (shows_any v5 (hornC []) 3 2 (some ⟨w5.heap.size, 0, none⟩) 3 [5, 0, 2] _ (h5.ext (Ext.alloc (Ext.refl w5) _)) z0 ?i5 (by decide)).mono ?_
  case i5 => exact rd_block (xs := [.int .i64 5, .int .i64 0, .int .i64 2]) (heap_alloc_new w5 _)
  rw [horn_shows]
  rintro e w6 ⟨rfl, x6⟩
  have y6 := y4.trans (x5.trans (Ext.alloc_cell x6))
  clear x5 x6 h5 y4
  go_wp2_with fail
  refine (horn_any (some ⟨w6.heap.size + 1, 0, none⟩) 1 lieL _ ?i6).mono ?_
  case i6 =>
    refine own_one_claim _ w6.heap.size (w6.heap.size + 1) ?_ ?_
    · exact (Below.block (Ext.alloc (Ext.refl _) _) _ (by simp)).trans (heap_alloc_new w6 _)
    · have := heap_alloc_new (w6.alloc (.cells #[.int .i64 1, .int .i64 0, .int .i64 (-50)] 35)) (.cells #[.int .i64 0, .slice (some ⟨w6.heap.size, 0, none⟩) 1 1] 37)
      simpa using this
  rintro e w7 ⟨v7, rfl, h7, x7⟩
  obtain ⟨A1, c1, A2, c2, rfl, p1, p2⟩ := h7
  have y7 := y6.trans (Ext.alloc_cell (Ext.alloc_cell x7))
  clear x7 y6
  go_wp2_with fail
  have x8 := Ext.alloc (Ext.refl w7) (.cells #[.int .i64 (hornC lieL).ev, .slice A1 (hornC lieL).bs.length c1, .int .i64 (hornC lieL).wi, .slice A2 (hornC lieL).cl.length c2] 26)
  have C8 : CsR (w7.alloc (.cells #[.int .i64 (hornC lieL).ev, .slice A1 (hornC lieL).bs.length c1, .int .i64 (hornC lieL).wi, .slice A2 (hornC lieL).cl.length c2] 26)) (.agg #[.int .i64 (hornC lieL).ev, .slice A1 (hornC lieL).bs.length c1, .int .i64 (hornC lieL).wi, .slice A2 (hornC lieL).cl.length c2]) (hornC lieL) := ⟨A1, c1, A2, c2, rfl, p1.ext x8, p2.ext x8⟩
  refine (liars_any _ (hornC lieL) _ C8 z1).mono ?_
  rw [lie_liars]
  rintro e w9 ⟨r9, rfl, x9, -, q9⟩
  obtain ⟨l9, A9, c9, hl9, rfl, i9⟩ := q9 rfl
  rw [lie_few] at hl9
  obtain rfl : l9 = [0] := (Option.some.inj hl9).symm
  have C9 := C8.ext x9
  have y9 := y7.trans (x8.trans x9)
  have k0 := x9.cell (p := ⟨w7.heap.size, 0, none⟩) (u := .int .i64 (hornC lieL).ev) (by simp [go_sem])
  have k1 := x9.cell (p := ⟨w7.heap.size, 1, none⟩) (u := .slice A1 (hornC lieL).bs.length c1) (by simp [go_sem])
  have k2 := x9.cell (p := ⟨w7.heap.size, 2, none⟩) (u := .int .i64 (hornC lieL).wi) (by simp [go_sem])
  have k3 := x9.cell (p := ⟨w7.heap.size, 3, none⟩) (u := .slice A2 (hornC lieL).cl.length c2) (by simp [go_sem])
  clear x8 x9 hl9 q9 C8 y7 p1 p2
  go_wp2_with fail
  refine (horn_any none 0 [] w9 (Claims.nil w9 none)).mono ?_
  rintro e w10 ⟨v10, rfl, h10, x10⟩
  go_wp2_with fail
  refine (ring_any v10 (hornC []) w10 h10 z0).mono ?_
  rw [horn_ring]
  rintro e w11 ⟨r11, rfl, x11, q11, -⟩
  obtain rfl := q11 (by decide)
  have x911 := x10.trans x11
  have y11 := y9.trans x911
  have C11 := C9.ext x911
  have i11 := i9.ext x911
  have k0 := x911.cell k0
  have k1 := x911.cell k1
  have k2 := x911.cell k2
  have k3 := x911.cell k3
  clear x10 x11 h10 q11 y9 C9 i9 x911
  go_wp2_with fail
  refine (truth_any _ (hornC lieL) w11 C11 z1).mono ?_
  rw [lie_told]
  rintro e w12 ⟨r12, rfl, x12, -, q12⟩
  obtain rfl := q12 (by decide)
  have y12 := y11.trans x12
  have i12 := i11.ext x12
  clear q12 y11 C11 i11 x12
  go_wp2_with fail
  refine (horn_any none 0 [] w12 (Claims.nil w12 none)).mono ?_
  rintro e w13 ⟨v13, rfl, h13, x13⟩
  go_wp2_with fail
  refine (ask_any v13 (hornC []) 2 3 w13 h13 z0).mono ?_
  rw [horn_ask]
  rintro e w14 ⟨rfl, x14⟩
  have y14 := y12.trans (x13.trans x14)
  have i14 := i12.ext (x13.trans x14)
  clear x13 x14 h13 y12 i12
  go_wp2_with fail
  have x15 := Ext.alloc (Ext.alloc (Ext.refl w14) (.cells #[.int .i64 4, .int .i64 48] 59)) (.cells #[.int .i64 0] 3)
  refine (eq_int A9 (some ⟨w14.heap.size + 1, 0, none⟩) c9 1 [0] [0] _ (i14.ext x15) ?i15 (by decide) (by decide)).mono ?_
  case i15 =>
    refine rd_block (xs := [.int .i64 0]) (T := 3) (fr := (0, 0)) ?_
    have := heap_alloc_new (w14.alloc (.cells #[.int .i64 4, .int .i64 48] 59)) (.cells #[.int .i64 0] 3)
    simpa using this
  rintro e w16 ⟨rfl, x16⟩
  have m0 := x16.cell (p := ⟨w14.heap.size, 0, none⟩) (u := .int .i64 4) (by simp [go_sem])
  have m1 := x16.cell (p := ⟨w14.heap.size, 1, none⟩) (u := .int .i64 48) (by simp [go_sem])
  have y16 := y14.trans (x15.trans x16)
  clear x15 x16 y14
  go_wp2
  go_ret
  exact ⟨rfl, y16⟩
end Go.Proofs.Ytgnjhaomlbkgcaa
