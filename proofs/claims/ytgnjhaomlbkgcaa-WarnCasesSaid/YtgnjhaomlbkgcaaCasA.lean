/- Rows of bounds that are cleared: what stays. -/
import Derived.Test.YtgnjhaomlbkgcaaBase
import Derived.Test.YtgnjhaomlbkgcaaProg
import Derived.Test.YtgnjhaomlbkgcaaWMadeP
import Derived.Test.YtgnjhaomlbkgcaaWAsk2
import Derived.Test.YtgnjhaomlbkgcaaWLiars2
import Derived.Test.YtgnjhaomlbkgcaaWRing
import Derived.Test.YtgnjhaomlbkgcaaWMade
import Derived.Laws.ResultCell
import Derived.Test.YtgnjhaomlbkgcaaBelS
import Derived.Laws.CopyOwn
import Derived.Test.YtgnjhaomlbkgcaaWClone
import Derived.Test.YtgnjhaomlbkgcaaOwn
import Derived.Test.YtgnjhaomlbkgcaaWOpen
import Derived.Test.YtgnjhaomlbkgcaaWSlices
import Derived.Test.YtgnjhaomlbkgcaaWBelP
import Derived.Test.YtgnjhaomlbkgcaaRowsA
import Derived.Test.YtgnjhaomlbkgcaaRef2
import Derived.Test.YtgnjhaomlbkgcaaWShows
namespace Go.Proofs.Ytgnjhaomlbkgcaa
open Go Go.RowKit
set_option linter.unusedVariables false
set_option linter.unusedSimpArgs false

theorem eq_drop {l m : List Int} {k : Nat} {x y : Int} (hx : l[k]? = some x) (hy : m[k]? = some y) : (l.drop k == m.drop k) = ((x == y) && (l.drop (k + 1) == m.drop (k + 1))) := by
  have h1 : k < l.length := (List.getElem?_eq_some_iff.1 hx).1
  have h2 : k < m.length := (List.getElem?_eq_some_iff.1 hy).1
  rw [List.drop_eq_getElem_cons h1, List.drop_eq_getElem_cons h2, (List.getElem?_eq_some_iff.1 hx).2, (List.getElem?_eq_some_iff.1 hy).2]
  rfl

set_option maxRecDepth 100000 in
set_option maxHeartbeats 1000000 in
theorem equal_int (A A' : Option Addr) (c c' : Nat) (l m : List Int) (w : World) (hA : Ints w A l) (hB : Ints w A' m) (hl : l.length ≤ 9223372036854775807) (hm : m.length ≤ 9223372036854775807) :
    Calls Try.prog 94 #[.slice A l.length c, .slice A' m.length c'] w fun e w' => e = .returned (.bool (l == m)) ∧ Ext w w' := by
  by_cases hlen : l.length = m.length
  · generalize hN : m.length = N at *
    have HF : Hid ((l.drop 0 == m.drop 0) = (l == m)) := rfl
    generalize hF : (l == m) = F at HF ⊢
    clear hF
    have hn1 : (l.length : Int) = N := by omega
    obtain rfl : l.length = N := hlen
    clear hn1
    have HN := hid hN
    clear hN
    go_enter Try.func94, Try.ntmps94
    go_wp2
    go_loopw [5, 13] (fun _ i wr => ∃ k : Nat, k ≤ l.length ∧ i = .int .i64 (k : Int) ∧ Ext w wr ∧ Hid ((l.drop k == m.drop k) = F)) (fun _ i _ => l.length - (intOf i).toNat)
    case atStart => exact ⟨0, Nat.zero_le _, rfl, Ext.refl _, HF⟩
    case round =>
      obtain ⟨k, hk, rfl, hx, HF⟩ := hrel
      by_cases hlt : k < l.length
      · have hlt' : (k : Int) < (l.length : Int) := by omega
        obtain ⟨x, hx1⟩ := get_of_lt l k hlt
        obtain ⟨y, hy1⟩ := get_of_lt m k (by rw [HN.out]; exact hlt)
        obtain ⟨b1, o1, rfl, g1⟩ := (hA.ext hx).at_ hx1
        obtain ⟨b2, o2, rfl, g2⟩ := (hB.ext hx).at_ hy1
        have HX : Hid (((x == y) && (l.drop (k + 1) == m.drop (k + 1))) = F) := by unfold Hid; rw [← HF.out, eq_drop hx1 hy1]
        clear HF hx1 hy1
        by_cases hxy : x = y
        · subst hxy
          have hq : (x != x) = false := by simp
          have HX2 : Hid ((l.drop (k + 1) == m.drop (k + 1)) = F) := by unfold Hid; rw [← HX.out]; simp
          go_wp2
          go_quiet (fail)
          go_wp2
          go_roundw
          case rel => exact ⟨k + 1, by omega, by go_num, hx.drewN _, HX2⟩
          case measure => simp [intOf]; omega
        · have hq : (x != y) = true := by simpa using hxy
          have HX2 : Hid (false = F) := by unfold Hid; rw [← HX.out]; simp [hxy]
          go_wp2
          go_quiet (fail)
          go_wp2
          go_ret
          exact ⟨ret_of (bool_of HX2.out), hx.drewN _⟩
      · have hlt' : ¬ (k : Int) < (l.length : Int) := by omega
        have HX2 : Hid (true = F) := by
          unfold Hid
          rw [← HF.out, List.drop_eq_nil_of_le (by omega), List.drop_eq_nil_of_le (by rw [HN.out]; omega)]; rfl
        go_wp2
        go_ret
        exact ⟨ret_of (bool_of HX2.out), hx⟩
  · have hq : ((l.length : Int) != (m.length : Int)) = true := by simp; omega
    have HF : Hid ((l == m) = false) := by
      unfold Hid
      rw [beq_eq_false_iff_ne]
      intro e; exact hlen (by rw [e])
    generalize hF : (l == m) = F at HF ⊢
    clear hF
    go_enter Try.func94, Try.ntmps94
    go_wp2
    go_ret
    exact ⟨ret_of (bool_of HF.out.symm), Ext.refl _⟩

theorem eq_int (A A' : Option Addr) (c c' : Nat) (l m : List Int) (w : World) (hA : Ints w A l) (hB : Ints w A' m) (hl : l.length ≤ 9223372036854775807) (hm : m.length ≤ 9223372036854775807) :
    Calls Try.prog 32 #[.slice A l.length c, .slice A' m.length c'] w fun e w' => e = .returned (.bool (l == m)) ∧ Ext w w' := by
  generalize hF : (l == m) = F
  have HF := hid hF
  clear hF
  go_enter Try.func32, Try.ntmps32
  go_wp2_with fail
  refine (equal_int A A' c c' l m w hA hB hl hm).mono ?_
  rw [HF.out]
  rintro e w1 ⟨rfl, hb⟩
  go_wp2
  go_ret
  exact ⟨rfl, hb⟩
end Go.Proofs.Ytgnjhaomlbkgcaa

namespace Go.Proofs.Ytgnjhaomlbkgcaa
open Go Go.RowKit
set_option linter.unusedVariables false
set_option linter.unusedSimpArgs false

def hornC (l : List Cl) : Cs := ⟨4, [⟨0, 1, 30⟩, ⟨1, 0, 0⟩, ⟨1, 2, 6⟩, ⟨2, 1, -2⟩, ⟨0, 3, 50⟩, ⟨3, 0, -40⟩], 2, l⟩
def lieL : List Cl := [⟨0, [⟨1, 0, -50⟩]⟩]
def tru (a b c d : Int) : Nat → Int := fun k => match k with | 0 => a | 1 => b | 2 => c | _ => d
theorem gap_eq {tf : Int → Bool} {c : Cs} {t : Nat → Int} (h0 : checkC c = 0) (ht : TruthOf (belL tf c) t) {a b : Nat} (ha : a < 8) (hb : b < 8) {l : List Bd} (hr : Row (belL tf c) a b l) (hs : sumW l = t b - t a) : gapsM tf c a b = t b - t a := by
  have h1 := gap_le h0 ht.fine ha hb hr
  have h2 := ht.gap h0 ha hb (gap_lt_far h0 ht.fine ha hb hr)
  omega
theorem horn_check (l : List Cl) (h : l = [] ∨ l = lieL) : checkC (hornC l) = 0 := by
  rcases h with rfl | rfl <;> decide
theorem horn_truth {t : Nat → Int} (h : ∀ x ∈ (hornC []).bs, t x.t.toNat ≤ t x.f.toNat + x.m) : TruthOf (belL allT (hornC [])) t := by
  rw [belL_all]
  intro x hx
  exact h x (by simpa [Cs.all, hornC] using hx)
theorem horn_t1 : TruthOf (belL allT (hornC [])) (tru 0 30 36 40) := horn_truth (by decide)
theorem horn_t2 : TruthOf (belL allT (hornC [])) (tru 0 0 2 50) := horn_truth (by decide)
theorem horn_row {a b : Nat} {l : List Bd} (hm : ∀ x ∈ l, x ∈ (hornC []).bs) (hc : chn a l) (he : endW a l = b) : Row (belL allT (hornC [])) a b l := by
  rw [belL_all]
  exact ⟨fun x hx => by have := hm x hx; simpa [Cs.all, hornC] using this, hc, he⟩
theorem horn_g02 : gapsM allT (hornC []) 0 2 = 36 :=
  gap_eq (l := [⟨0, 1, 30⟩, ⟨1, 2, 6⟩]) (horn_check [] (.inl rfl)) horn_t1 (by omega) (by omega) (horn_row (by decide) ⟨rfl, rfl, trivial⟩ rfl) rfl
theorem horn_g32 : gapsM allT (hornC []) 3 2 = -4 :=
  gap_eq (l := [⟨3, 0, -40⟩, ⟨0, 1, 30⟩, ⟨1, 2, 6⟩]) (horn_check [] (.inl rfl)) horn_t1 (by omega) (by omega) (horn_row (by decide) ⟨rfl, rfl, rfl, trivial⟩ rfl) rfl
theorem horn_g23 : gapsM allT (hornC []) 2 3 = 48 :=
  gap_eq (l := [⟨2, 1, -2⟩, ⟨1, 0, 0⟩, ⟨0, 3, 50⟩]) (horn_check [] (.inl rfl)) horn_t2 (by omega) (by omega) (horn_row (by decide) ⟨rfl, rfl, rfl, trivial⟩ rfl) rfl
theorem horn_fine : Fine (hornC []).all := by rw [← belL_all]; exact horn_t1.fine
theorem horn_gap : gapOf (hornC []) 0 2 = (36, 0) := by
  have := gap_is (a := 0) (b := 2) (horn_check [] (.inl rfl)) horn_fine (by decide) (by decide)
  rw [horn_g02] at this
  exact this
theorem horn_before : beforeOf (hornC []) 2 3 = (1, 0) := by
  have := before_is (a := 2) (b := 3) (horn_check [] (.inl rfl)) horn_fine (by decide) (by decide)
  unfold verdictM at this
  rw [horn_g32] at this
  exact this
theorem horn_ask : askOf (hornC []) 2 3 = ((4, 48), 0) := by
  have h1 : askedC (hornC []) [2, 3] = 0 := asked_two (a := 2) (b := 3) (horn_check [] (.inl rfl)) horn_fine (by decide) (by decide)
  unfold askOf
  rw [if_pos h1]
  show (if gapsM allT (hornC []) 2 3 = far ∨ gapsM allT (hornC []) 3 2 = far then _ else ((-gapsM allT (hornC []) 3 2, gapsM allT (hornC []) 2 3), 0)) = _
  rw [horn_g32, horn_g23]
  rfl
theorem horn_shows : showsOf (hornC []) 3 2 [5, 0, 2] = (-4, 0) := by
  unfold showsOf
  rw [if_neg (by rw [horn_check [] (.inl rfl)]; decide)]
  decide
theorem horn_ring : ringC (hornC []) = 6 := by
  unfold ringC
  rw [horn_check [] (.inl rfl), clash_of (horn_check [] (.inl rfl)) (by rw [belL_all]; exact horn_fine)]
  rfl
theorem lie_ring {tf : Int → Bool} (h : tf 0 = true) : clashM (gapsM tf (hornC lieL)) = true := by
  cases hc : clashM (gapsM tf (hornC lieL)) with
  | true => rfl
  | false =>
    have hf := fine_of (horn_check lieL (.inr rfl)) hc
    have hb : belL tf (hornC lieL) = (hornC lieL).bs ++ [⟨1, 0, -50⟩] := by
      unfold belL belNum hornC lieL
      simp [numFrom, clNum, h]
    have := hf 0 [⟨0, 1, 30⟩, ⟨1, 0, -50⟩] (by omega) ⟨by rw [hb]; decide, ⟨rfl, rfl, trivial⟩, rfl⟩
    exact absurd this (by decide)
theorem lie_told : toldC (hornC lieL) = 7 := by
  unfold toldC
  rw [if_pos (horn_check lieL (.inr rfl)), lie_ring rfl]
  rfl
theorem lie_p0 : liarsP (hornC lieL) [] = false := by
  unfold liarsP
  rw [lie_ring rfl]; rfl
theorem lie_p1 : liarsP (hornC lieL) [0] = true := by
  unfold liarsP
  rw [clash_of (horn_check lieL (.inr rfl))]; rfl
  have hb : belL (fun n => !memI n [0]) (hornC lieL) = (hornC lieL).bs := by
    unfold belL belNum hornC lieL
    simp [numFrom, clNum, memI]
  rw [hb]
  exact TruthOf.fine (t := tru 0 30 36 40) (show ∀ x ∈ (hornC lieL).bs, tru 0 30 36 40 x.t.toNat ≤ tru 0 30 36 40 x.f.toNat + x.m by decide)
theorem lie_few : fewL (liarsP (hornC lieL)) (hornC lieL).wi.toNat = some [0] := by
  show fewL (liarsP (hornC lieL)) 2 = some [0]
  simp [fewL, tryL, moreL, lie_p0, lie_p1]
theorem lie_liars : liarsC (hornC lieL) = 0 := by
  unfold liarsC
  rw [lie_few, horn_check lieL (.inr rfl)]
  rfl
end Go.Proofs.Ytgnjhaomlbkgcaa

namespace Go.Proofs.Ytgnjhaomlbkgcaa
open Go Go.RowKit Go.Shelf
set_option linter.unusedVariables false
set_option linter.unusedSimpArgs false


set_option maxRecDepth 100000 in
set_option maxHeartbeats 1000000 in
theorem horn_any (A : Option Addr) (k : Nat) (l : List Cl) (w : World) (hA : Claims w A l) :
    Calls Try.prog 83 #[.slice A l.length k] w fun e w' => ∃ v, e = .returned v ∧ CsR w' v (hornC l) ∧ Ext w w' := by
  go_enter Try.func83, Try.ntmps83
  go_wp2
  have hB : (((w.alloc (.cells #[.int .i64 4, .slice (some ⟨w.heap.size + 1, 0, none⟩) 6 6, .int .i64 2, .slice A l.length k] 26)).alloc (.cells (bcells (hornC l).bs).toArray 35))).heap[w.heap.size + 1]? = some (.cells (bcells (hornC l).bs).toArray 35 (0, 0)) := by
    have := heap_alloc_new (w.alloc (.cells #[.int .i64 4, .slice (some ⟨w.heap.size + 1, 0, none⟩) 6 6, .int .i64 2, .slice A l.length k] 26)) (.cells (bcells (hornC l).bs).toArray 35)
    simpa using this
  have hx := Ext.alloc (Ext.alloc (Ext.refl w) (.cells #[.int .i64 4, .slice (some ⟨w.heap.size + 1, 0, none⟩) 6 6, .int .i64 2, .slice A l.length k] 26)) (.cells (bcells (hornC l).bs).toArray 35)
  refine bodyPost_ret (v := .agg #[.int .i64 4, .slice (some ⟨w.heap.size + 1, 0, none⟩) 6 6, .int .i64 2, .slice A l.length k]) ?_ rfl ⟨_, rfl, ⟨some ⟨w.heap.size + 1, 0, none⟩, 6, A, k, rfl, rd_block hB, hA.ext hx⟩, hx⟩
  simp [results, Try.results83, go_sem]

theorem own_one_claim (w : World) (B C : Nat) (hB : w.heap[B]? = some (.cells #[.int .i64 1, .int .i64 0, .int .i64 (-50)] 35 (0, 0))) (hC : w.heap[C]? = some (.cells #[.int .i64 0, .slice (some ⟨B, 0, none⟩) 1 1] 37 (0, 0))) : Claims w (some ⟨C, 0, none⟩) lieL := by
  refine ⟨_, rd_block (xs := [.int .i64 0, .slice (some ⟨B, 0, none⟩) 1 1]) hC, rfl, ⟨some ⟨B, 0, none⟩, 1, rfl, ?_⟩, trivial⟩
  exact rd_block (xs := bcells [⟨1, 0, -50⟩]) hB
theorem horn_sized (l : List Cl) (h : l = [] ∨ l = lieL) : (hornC l).sized := by
  rcases h with rfl | rfl <;> exact ⟨by decide, by decide, by decide⟩

set_option maxRecDepth 100000 in
set_option maxHeartbeats 4000000 in
theorem awake_any (w : World) : Calls Try.prog 22 #[] w fun e w' => e = .returned (.bool true) ∧ Ext w w' := by
  have z0 := horn_sized [] (.inl rfl)
  have z1 := horn_sized lieL (.inr rfl)
  go_enter Try.func22, Try.ntmps22
  go_wp2_with fail
  refine (horn_any none 0 [] w (Claims.nil w none)).mono ?_
  rintro e w1 ⟨v1, rfl, h1, x1⟩
  go_wp2_with fail
  refine (gap_any v1 (hornC []) 0 2 w1 h1 z0).mono ?_
  rw [horn_gap]
  rintro e w2 ⟨rfl, x2⟩
  have y2 := x1.trans x2
  clear x1 x2 h1
  go_wp2_with fail
  refine (horn_any none 0 [] w2 (Claims.nil w2 none)).mono ?_
  rintro e w3 ⟨v3, rfl, h3, x3⟩
  go_wp2_with fail
  refine (before_any v3 (hornC []) 2 3 w3 h3 z0).mono ?_
  rw [horn_before]
  rintro e w4 ⟨rfl, x4⟩
  have y4 := y2.trans (x3.trans x4)
  clear x3 x4 h3 y2
  go_wp2_with fail
  refine (horn_any none 0 [] w4 (Claims.nil w4 none)).mono ?_
  rintro e w5 ⟨v5, rfl, h5, x5⟩
  go_wp2_with fail
  refine (shows_any v5 (hornC []) 3 2 (some ⟨w5.heap.size, 0, none⟩) 3 [5, 0, 2] _ (h5.ext (Ext.alloc (Ext.refl w5) _)) z0 ?i5 (by decide)).mono ?_
  case i5 => exact rd_block (xs := [.int .i64 5, .int .i64 0, .int .i64 2]) (heap_alloc_new w5 _)
  rw [horn_shows]
  rintro e w6 ⟨rfl, x6⟩
  have y6 := y4.trans (x5.trans (Ext.alloc_cell x6))
  clear x5 x6 h5 y4
  go_wp2_with fail
  refine (horn_any (some ⟨w6.heap.size + 1, 0, none⟩) 1 lieL _ ?i6).mono ?_
  case i6 =>
    refine own_one_claim _ w6.heap.size (w6.heap.size + 1) ?_ ?_
    · exact (Below.block (Ext.alloc (Ext.refl _) _) _ (by simp)).trans (heap_alloc_new w6 _)
    · have := heap_alloc_new (w6.alloc (.cells #[.int .i64 1, .int .i64 0, .int .i64 (-50)] 35)) (.cells #[.int .i64 0, .slice (some ⟨w6.heap.size, 0, none⟩) 1 1] 37)
      simpa using this
  rintro e w7 ⟨v7, rfl, h7, x7⟩
  obtain ⟨A1, c1, A2, c2, rfl, p1, p2⟩ := h7
  have y7 := y6.trans (Ext.alloc_cell (Ext.alloc_cell x7))
  clear x7 y6
  go_wp2_with fail
  have x8 := Ext.alloc (Ext.refl w7) (.cells #[.int .i64 (hornC lieL).ev, .slice A1 (hornC lieL).bs.length c1, .int .i64 (hornC lieL).wi, .slice A2 (hornC lieL).cl.length c2] 26)
  have C8 : CsR (w7.alloc (.cells #[.int .i64 (hornC lieL).ev, .slice A1 (hornC lieL).bs.length c1, .int .i64 (hornC lieL).wi, .slice A2 (hornC lieL).cl.length c2] 26)) (.agg #[.int .i64 (hornC lieL).ev, .slice A1 (hornC lieL).bs.length c1, .int .i64 (hornC lieL).wi, .slice A2 (hornC lieL).cl.length c2]) (hornC lieL) := ⟨A1, c1, A2, c2, rfl, p1.ext x8, p2.ext x8⟩
  refine (liars_any _ (hornC lieL) _ C8 z1).mono ?_
  rw [lie_liars]
  rintro e w9 ⟨r9, rfl, x9, -, q9⟩
  obtain ⟨l9, A9, c9, hl9, rfl, i9⟩ := q9 rfl
  rw [lie_few] at hl9
  obtain rfl : l9 = [0] := (Option.some.inj hl9).symm
  have C9 := C8.ext x9
  have y9 := y7.trans (x8.trans x9)
  have k0 := x9.cell (p := ⟨w7.heap.size, 0, none⟩) (u := .int .i64 (hornC lieL).ev) (by simp [go_sem])
  have k1 := x9.cell (p := ⟨w7.heap.size, 1, none⟩) (u := .slice A1 (hornC lieL).bs.length c1) (by simp [go_sem])
  have k2 := x9.cell (p := ⟨w7.heap.size, 2, none⟩) (u := .int .i64 (hornC lieL).wi) (by simp [go_sem])
  have k3 := x9.cell (p := ⟨w7.heap.size, 3, none⟩) (u := .slice A2 (hornC lieL).cl.length c2) (by simp [go_sem])
  clear x8 x9 hl9 q9 C8 y7 p1 p2
  go_wp2_with fail
  refine (horn_any none 0 [] w9 (Claims.nil w9 none)).mono ?_
  rintro e w10 ⟨v10, rfl, h10, x10⟩
  go_wp2_with fail
  refine (ring_any v10 (hornC []) w10 h10 z0).mono ?_
  rw [horn_ring]
  rintro e w11 ⟨r11, rfl, x11, q11, -⟩
  obtain rfl := q11 (by decide)
  have x911 := x10.trans x11
  have y11 := y9.trans x911
  have C11 := C9.ext x911
  have i11 := i9.ext x911
  have k0 := x911.cell k0
  have k1 := x911.cell k1
  have k2 := x911.cell k2
  have k3 := x911.cell k3
  clear x10 x11 h10 q11 y9 C9 i9 x911
  go_wp2_with fail
  refine (truth_any _ (hornC lieL) w11 C11 z1).mono ?_
  rw [lie_told]
  rintro e w12 ⟨r12, rfl, x12, -, q12⟩
  obtain rfl := q12 (by decide)
  have y12 := y11.trans x12
  have i12 := i11.ext x12
  clear q12 y11 C11 i11 x12
  go_wp2_with fail
  refine (horn_any none 0 [] w12 (Claims.nil w12 none)).mono ?_
  rintro e w13 ⟨v13, rfl, h13, x13⟩
  go_wp2_with fail
  refine (ask_any v13 (hornC []) 2 3 w13 h13 z0).mono ?_
  rw [horn_ask]
  rintro e w14 ⟨rfl, x14⟩
  have y14 := y12.trans (x13.trans x14)
  have i14 := i12.ext (x13.trans x14)
  clear x13 x14 h13 y12 i12
  go_wp2_with fail
  have x15 := Ext.alloc (Ext.alloc (Ext.refl w14) (.cells #[.int .i64 4, .int .i64 48] 59)) (.cells #[.int .i64 0] 3)
  refine (eq_int A9 (some ⟨w14.heap.size + 1, 0, none⟩) c9 1 [0] [0] _ (i14.ext x15) ?i15 (by decide) (by decide)).mono ?_
  case i15 =>
    refine rd_block (xs := [.int .i64 0]) (T := 3) (fr := (0, 0)) ?_
    have := heap_alloc_new (w14.alloc (.cells #[.int .i64 4, .int .i64 48] 59)) (.cells #[.int .i64 0] 3)
    simpa using this
  rintro e w16 ⟨rfl, x16⟩
  have m0 := x16.cell (p := ⟨w14.heap.size, 0, none⟩) (u := .int .i64 4) (by simp [go_sem])
  have m1 := x16.cell (p := ⟨w14.heap.size, 1, none⟩) (u := .int .i64 48) (by simp [go_sem])
  have y16 := y14.trans (x15.trans x16)
  clear x15 x16 y14
  go_wp2
  go_ret
  exact ⟨rfl, y16⟩
end Go.Proofs.Ytgnjhaomlbkgcaa

namespace Go.Proofs.Ytgnjhaomlbkgcaa
open Go Go.RowKit
set_option linter.unusedVariables false
set_option linter.unusedSimpArgs false

section
variable {P : Program}
theorem run_copy_sized (w : World) (dT sT ty elem : TypeId) (sz g o dLen dCap : Nat) (a : Addr) (sLen sCap n : Nat) (cur : Array Value) (t : TypeId) (cs : List Value)
    (hu : P.underlying dT = some (.slice elem)) (hs : (P.info? elem).map (·.size) = some sz)
    (hg : w.heap[g]? = some (.cells cur t (0, 0))) (hn : n = Nat.min sLen dLen) (hcl : cs.length = n * sz)
    (hsrc : ∀ j v, cs[j]? = some v → w.cell? (a.add j) = some v) (hfit : o + cs.length ≤ cur.size) (h1 : ∀ v ∈ cs, v.oneCell' = true) :
    (Builtin.copy_ #[dT, sT] ty #[.slice (some ⟨g, o, none⟩) dLen dCap, .slice (some a) sLen sCap]).run P w =
      .ok (goInt n) (w.setRow g (cur.toList.take o ++ cs ++ cur.toList.drop (o + cs.length)).toArray) := by
  have hl := run_loadCells_list (P := P) w a cs hsrc
  have hst := run_storeCells_at P g o t cs 0 cur w hg (by simpa using hfit) h1
  rw [hcl] at hl
  cases hq : P.info? elem with
  | none => simp [hq] at hs
  | some i =>
    have hi : i.size = sz := by simpa [hq] using hs
    simp [Builtin.copy_, run_underlying hu, Builtin.lenOf, Builtin.firstCells, sizeOf, typeInfo, hq, hi, ← hn, hl, hst]
theorem run_copy_zero (w : World) (dT sT ty elem : TypeId) (sz : Nat) (dp sp : Option Addr) (dLen dCap sLen sCap : Nat) (hu : P.underlying dT = some (.slice elem)) (hs : (P.info? elem).map (·.size) = some sz) (hn : Nat.min sLen dLen = 0) :
    (Builtin.copy_ #[dT, sT] ty #[.slice dp dLen dCap, .slice sp sLen sCap]).run P w = .ok (goInt 0) w := by
  cases hq : P.info? elem with
  | none => simp [hq] at hs
  | some i =>
    have hi : i.size = sz := by simpa [hq] using hs
    have hl : ∀ (x : Addr), (loadCells x 0).run P w = .ok #[] w := fun x => by simpa using run_loadCells_list (P := P) w x [] (by simp)
    cases dp <;> cases sp <;> simp [Builtin.copy_, run_underlying hu, Builtin.lenOf, Builtin.firstCells, sizeOf, typeInfo, hq, hi, hn, storeCells, hl]

/-- copy into a row of the call's own that is at least as long. -/
theorem run_copy_into (w : World) (dT sT ty elem e : TypeId) (sz : Nat) {B N cap g : Nat} {xs : List Value} (hu : P.underlying dT = some (.slice elem)) (hs : (P.info? elem).map (·.size) = some sz)
    (hown : w.ownsRow B e sz (.slice (some ⟨g, 0, none⟩) N cap) N xs) (A : Option Addr) (m c : Nat) (cs : List Value) (hm : m ≤ N) (hcl : cs.length = m * sz) (hr : Rd w A cs) (h1 : ∀ v ∈ cs, v.oneCell' = true) (hsz : 0 < sz) :
    ∃ w', (Builtin.copy_ #[dT, sT] ty #[.slice (some ⟨g, 0, none⟩) N cap, .slice A m c]).run P w = .ok (goInt m) w' ∧ w'.ownsRow B e sz (.slice (some ⟨g, 0, none⟩) N cap) N (cs ++ xs.drop (m * sz)) ∧ BelS (fun k => k = g) w w' := by
  have hmin : m = Nat.min m N := (Nat.min_eq_left hm).symm
  rcases Nat.eq_zero_or_pos m with h0 | h0
  · subst h0
    have hcs : cs = [] := List.eq_nil_of_length_eq_zero (by simpa using hcl)
    subst hcs
    exact ⟨w, run_copy_zero w dT sT ty elem sz _ A N cap 0 c hu hs (by simp), by simpa using hown, BelS.refl _ _⟩
  · have hne : cs ≠ [] := by
      intro e; subst e
      have := Nat.mul_pos h0 hsz
      simp at hcl; omega
    obtain ⟨b, off, rfl, hc⟩ := hr.at_ hne
    rcases hown.2 with ⟨h, _⟩ | ⟨g', cap', cur, h, hb, hg, hnc, hcm, hcs, htake⟩
    · cases h
    · cases h
      have hmN : m * sz ≤ N * sz := Nat.mul_le_mul_right sz hm
      have hNc : N * sz ≤ cap * sz := Nat.mul_le_mul_right sz hnc
      have hrun := run_copy_sized (P := P) w dT sT ty elem sz g 0 N cap ⟨b, off, none⟩ m c m cur e cs hu hs hg hmin hcl (fun j v hv => by rw [Addr.add_lit]; exact hc j v hv) (by omega) h1
      refine ⟨_, hrun, ⟨?_, .inr ⟨g, cap, _, rfl, hb, setRow_heap w g cur _ e (0, 0) hg, hnc, hcm, ?_, ?_⟩⟩, ?_⟩
      · rw [List.length_append, List.length_drop, hown.1]; omega
      · simp only [List.take_zero, List.nil_append, Nat.zero_add, List.size_toArray, List.length_append, List.length_drop, Array.length_toList]
        omega
      · simp only [List.take_zero, List.nil_append, Nat.zero_add]
        rw [← htake, List.drop_take, List.take_append, List.take_of_length_le (by omega), hcl]
      · exact ⟨⟨rfl, rfl, rfl, by simp, fun k hk => absurd hk (Nat.not_lt_zero _)⟩, fun k _ hk => setRow_other w g k _ hk⟩
theorem wpList_copy_into (w : World) {ops : Array Oper} {rest : List Oper} {o : Oper} {a : Act} {Q : Exit → Act → World → Prop} (hgd : o.guard = none) (d s : Operand) (dT sT : TypeId)
    (ho : o.op = .call { callee := .builtin .copy, args := #[d, s], argTypes := #[dT, sT] }) (elem e : TypeId) (sz : Nat) {B N cap g : Nat} {xs : List Value} (hu : P.underlying dT = some (.slice elem)) (hs : (P.info? elem).map (·.size) = some sz)
    (hd : a.eval d = .slice (some ⟨g, 0, none⟩) N cap) (hown : w.ownsRow B e sz (.slice (some ⟨g, 0, none⟩) N cap) N xs) (A : Option Addr) (m c : Nat) (cs : List Value) (hx : a.eval s = .slice A m c) (hm : m ≤ N) (hcl : cs.length = m * sz) (hr : Rd w A cs) (h1 : ∀ v ∈ cs, v.oneCell' = true) (hsz : 0 < sz)
    (h : ∀ w', w'.ownsRow B e sz (.slice (some ⟨g, 0, none⟩) N cap) N (cs ++ xs.drop (m * sz)) → BelS (fun k => k = g) w w' → wpList P ops Q rest (a.put o.dst (goInt m)) w') : wpList P ops Q (o :: rest) a w := by
  refine wpList_plain hgd fun K hK => ?_
  obtain ⟨w', hrun, h2, h3⟩ := run_copy_into (P := P) w dT sT o.type elem e sz hu hs hown A m c cs hm hcl hr h1 hsz
  unfold Oper.wp
  simp [execOp, ho, resolve, invoke, builtin, hd, hx, hrun, Result.andThen]
  exact hK _ _ (h w' h2 h3)
end
end Go.Proofs.Ytgnjhaomlbkgcaa

namespace Go.Proofs.Ytgnjhaomlbkgcaa
open Go Go.RowKit Go.Shelf
set_option linter.unusedVariables false
set_option linter.unusedSimpArgs false

/-- Claims whose bounds lie in rows of the call's own. -/
def ClW (w : World) (B : Nat) : List Value → List Cl → Prop
  | [], [] => True
  | a :: b :: xs, x :: l => a = .int .i64 x.w ∧ (∃ A k, b = .slice A x.bs.length k ∧ w.ownsRow B 35 3 (.slice A x.bs.length k) x.bs.length (bcells x.bs)) ∧ ClW w B xs l
  | _, _ => False
theorem ClW.keep {w w' : World} {B : Nat} (hk : ∀ v n ys, w.ownsRow B 35 3 v n ys → w'.ownsRow B 35 3 v n ys) : ∀ {xs : List Value} {l : List Cl}, ClW w B xs l → ClW w' B xs l
  | [], [], _ => trivial
  | _ :: _ :: xs, _ :: l, ⟨h1, ⟨A, k, h2, h3⟩, h4⟩ => ⟨h1, ⟨A, k, h2, hk _ _ _ h3⟩, ClW.keep hk h4⟩
  | [], _ :: _, h => h.elim
  | _ :: _, [], h => by rename_i xs; cases xs <;> exact h.elim
  | [_], _ :: _, h => h.elim
theorem ClW.ext {w w' : World} {B : Nat} {xs : List Value} {l : List Cl} (h : ClW w B xs l) (hx : Ext w w') : ClW w' B xs l := h.keep fun _ _ _ ho => own_below ho hx
theorem ClW.base {w : World} {B B' : Nat} (hb : B' ≤ B) : ∀ {xs : List Value} {l : List Cl}, ClW w B xs l → ClW w B' xs l
  | [], [], _ => trivial
  | _ :: _ :: xs, _ :: l, ⟨h1, ⟨A, k, h2, h3⟩, h4⟩ => ⟨h1, ⟨A, k, h2, own_base h3 hb⟩, ClW.base hb h4⟩
  | [], _ :: _, h => h.elim
  | _ :: _, [], h => by rename_i xs; cases xs <;> exact h.elim
  | [_], _ :: _, h => h.elim
theorem ClW.app {w : World} {B : Nat} : ∀ {xs ys : List Value} {l m : List Cl}, ClW w B xs l → ClW w B ys m → ClW w B (xs ++ ys) (l ++ m)
  | [], _, [], _, _, hy => hy
  | _ :: _ :: xs, _, _ :: l, _, ⟨h1, h2, h4⟩, hy => ⟨h1, h2, ClW.app h4 hy⟩
  | [], _, _ :: _, _, h, _ => h.elim
  | [_], _, [], _, h, _ => h.elim
  | _ :: _ :: _, _, [], _, h, _ => h.elim
  | [_], _, _ :: _, _, h, _ => h.elim
theorem ClW.toC {w : World} {B : Nat} : ∀ {xs : List Value} {l : List Cl}, ClW w B xs l → ClC w xs l
  | [], [], _ => trivial
  | _ :: _ :: xs, _ :: l, ⟨h1, ⟨A, k, h2, h3⟩, h4⟩ => ⟨h1, ⟨A, k, h2, Rd.of_own h3⟩, ClW.toC h4⟩
  | [], _ :: _, h => h.elim
  | _ :: _, [], h => by rename_i xs; cases xs <;> exact h.elim
  | [_], _ :: _, h => h.elim
/-- A row of another type is not touched by what is stored into a row of claims. -/
theorem own_apart {w w' : World} {B g : Nat} {v : Value} {n : Nat} {ys : List Value} (hx : BelS (fun i => i = g) w w') (hg : ∃ cur, w.heap[g]? = some (.cells cur 37 (0, 0))) (h : w.ownsRow B 35 3 v n ys) : w'.ownsRow B 35 3 v n ys := by
  refine hx.own h fun i hi e => ?_
  obtain ⟨A, c, rfl⟩ := own_slice h
  obtain ⟨a, rfl, ha⟩ := slice_own hi
  obtain ⟨i2, hi2⟩ := own_at h (by simp)
  cases hi2
  have e2 : i2 = i := ha
  exact ty_ne (own_ty h) hg (by decide) (e2.trans e)

def TwinPost (w : World) (A : Option Addr) (l : List Cl) (e : Ending) (w' : World) : Prop :=
  ∃ A' c' xs, e = .returned (.slice A' l.length c') ∧ w'.ownsRow w.heap.size 37 2 (.slice A' l.length c') l.length xs ∧ ClW w' w.heap.size xs l ∧ (A' = none ↔ A = none) ∧ Ext w w'

set_option maxRecDepth 100000 in
set_option maxHeartbeats 4000000 in
theorem twin_any (A : Option Addr) (k0 : Nat) (l : List Cl) (w : World) (xs0 : List Value) (hR : Rd w A xs0) (hC0 : ClC w xs0 l) (hl2 : l.length * 32 ≤ 140737488355328) (hl3 : ∀ x ∈ l, x.bs.length * 24 ≤ 140737488355328) :
    Calls Try.prog 104 #[.slice A l.length k0] w (TwinPost w A l) := by
  have HL3 := hid hl3
  clear hl3
  go_enter Try.func104, Try.ntmps104
  go_wp2_with fail
  refine (clone_claim A k0 l w xs0 hR hC0 hl2).mono ?_
  rintro e w1 ⟨A', c', rfl, ho, hnn, hx1⟩
  have O1 := hid ho
  have HNN := hid hnn
  have HR0 : Hid (ClC w xs0 (l.drop 0)) := hC0
  clear ho hnn
  go_wp2
  go_loopw [10] (fun i wr => ∃ (k : Nat) (xd xr : List Value), i = .int .i64 (k : Int) ∧ k ≤ l.length ∧ Hid (xd.length = k * 2) ∧ Hid (wr.ownsRow w.heap.size 37 2 (.slice A' l.length c') l.length (xd ++ xr)) ∧ Hid (ClW wr w.heap.size xd (l.take k)) ∧ Hid (ClC w xr (l.drop k)) ∧ Ext w wr) (fun i _ => l.length - (intOf i).toNat)
  case atStart => exact ⟨0, [], xs0, rfl, Nat.zero_le _, rfl, O1, trivial, HR0, hx1⟩
  case round =>
    obtain ⟨k, xd, xr, rfl, hk, HXD, O2, HCO, HCR, hx⟩ := hrel
    by_cases hlt : k < l.length
    · have hlt' : (k : Int) < (l.length : Int) := by omega
      obtain ⟨x, hxk⟩ := get_of_lt l k hlt
      have hdk : l.drop k = x :: l.drop (k + 1) := by rw [List.drop_eq_getElem_cons hlt, (List.getElem?_eq_some_iff.1 hxk).2]
      have htk : l.take (k + 1) = l.take k ++ [x] := by rw [List.take_succ_eq_append_getElem hlt, (List.getElem?_eq_some_iff.1 hxk).2]
      have hcr := HCR.out
      rw [hdk] at hcr
      obtain ⟨A3, k3, ys, rfl, hBx, hys⟩ := hcr.drop1
      have hl3 := HL3.out x (mem_of_get hxk)
      have HTK := hid htk
      have HYS : Hid (ClC w ys (l.drop (k + 1))) := hys
      obtain ⟨g2, hg2e⟩ : ∃ g, A' = some ⟨g, 0, none⟩ := by
        rcases O2.out.2 with ⟨_, h0⟩ | ⟨g, _, _, h, _⟩
        · omega
        · cases h; exact ⟨g, rfl⟩
      subst hg2e
      have c0 := O2.out.cellAt (k * 2) (by omega)
      have c1 := O2.out.cellAt (k * 2 + 1) (by omega)
      rw [List.getElem?_append_right (by rw [HXD.out]; omega), HXD.out, show k * 2 - k * 2 = 0 by omega] at c0
      rw [List.getElem?_append_right (by rw [HXD.out]; omega), HXD.out, show k * 2 + 1 - k * 2 = 1 by omega] at c1
      simp only [List.getElem?_cons_zero, List.getElem?_cons_succ] at c0 c1
      clear hdk htk hcr hys HCR hxk
      go_wp2_with fail
      have xo := Ext.alloc (Ext.refl wr) (.cells #[.int .i64 x.w, .slice A3 x.bs.length k3] 37)
      refine (clone_bound A3 k3 x.bs _ ((hBx.ext hx).ext xo) (by omega)).mono ?_
      rintro e w9 ⟨A5, c5, rfl, ho5, _, hx5⟩
      have x9 := xo.trans hx5
      have hsz := xo.size
      have hsz2 := hx.size
      have O29 := hid (own_below O2.out x9)
      have hf := O29.out.frozenAt
      have hfk := hf (k * 2 + 1)
      have hck := O29.out.cellAt (k * 2 + 1) (by omega)
      rw [List.getElem?_append_right (by rw [HXD.out]; omega), HXD.out, show k * 2 + 1 - k * 2 = 1 by omega] at hck
      simp only [List.getElem?_cons_zero, List.getElem?_cons_succ] at hck
      have O5 := hid (own_base (base' := w.heap.size) ho5 (by omega))
      have hgB : w.heap.size ≤ g2 := (O29.out.lt g2 rfl).1
      clear hf ho5 c0 c1
      go_wp2
      have st := O29.out.stored (k * 2 + 1) (.slice A5 x.bs.length c5)
      have xg : BelS (fun i => i = g2) w9 (w9.setCell ⟨g2, k * 2 + 1, none⟩ (.slice A5 x.bs.length c5)) := BelS.setCell (S := fun i => i = g2) (BelS.refl _ w9) _ _ rfl
      have xf : Ext w (w9.setCell ⟨g2, k * 2 + 1, none⟩ (.slice A5 x.bs.length c5)) := (hx.trans x9).setCell hgB _
      have hT2 := own_ty O29.out
      have N2 : Hid ((w9.setCell ⟨g2, k * 2 + 1, none⟩ (.slice A5 x.bs.length c5)).ownsRow w.heap.size 37 2 (.slice (some ⟨g2, 0, none⟩) l.length c') l.length ((xd ++ [.int .i64 x.w, .slice A5 x.bs.length c5]) ++ ys)) := by
        have h1 := st.1
        rw [List.set_append_right _ _ (by rw [HXD.out]; omega), HXD.out, show k * 2 + 1 - k * 2 = 1 by omega] at h1
        unfold Hid
        simpa using h1
      have NC : Hid (ClW (w9.setCell ⟨g2, k * 2 + 1, none⟩ (.slice A5 x.bs.length c5)) w.heap.size (xd ++ [.int .i64 x.w, .slice A5 x.bs.length c5]) (l.take (k + 1))) := by
        unfold Hid
        rw [HTK.out]
        exact ClW.app (m := [x]) ((HCO.out.ext x9).keep fun v n ys ho => own_apart xg hT2 ho) ⟨rfl, ⟨A5, c5, rfl, own_apart xg hT2 O5.out⟩, trivial⟩
      have NX : Hid ((xd ++ [Value.int .i64 x.w, Value.slice A5 x.bs.length c5]).length = (k + 1) * 2) := by unfold Hid; simp [HXD.out]; omega
      clear st xg hck hfk HCO HTK HXD O29 O2 O5 hx x9 hx5 xo hT2
      go_wp2
      go_roundw
      case rel => exact ⟨k + 1, xd ++ [.int .i64 x.w, .slice A5 x.bs.length c5], ys, by go_num, by omega, NX, N2, NC, HYS, xf⟩
      case measure => simp [intOf]; omega
    · have hlt' : ¬ (k : Int) < (l.length : Int) := by omega
      have hxr : xr = [] := by
        have := HCR.out
        rw [List.drop_eq_nil_of_le (by omega)] at this
        exact this.nil_
      subst hxr
      have hcl := HCO.out
      rw [List.take_of_length_le (by omega)] at hcl
      have ho2 := O2.out
      rw [List.append_nil] at ho2
      have H1 := hid hcl
      have H2 := hid ho2
      clear hcl ho2
      go_wp2
      go_ret
      exact ⟨A', c', xd, rfl, H2.out, H1.out, HNN.out, hx⟩
end Go.Proofs.Ytgnjhaomlbkgcaa

namespace Go.Proofs.Ytgnjhaomlbkgcaa
open Go Go.RowKit Go.Shelf
set_option linter.unusedVariables false
set_option linter.unusedSimpArgs false

def pcells : List (Int × Int) → List Value
  | [] => []
  | p :: l => .int .i64 p.1 :: .int .i64 p.2 :: pcells l
theorem pcells_len (l : List (Int × Int)) : (pcells l).length = l.length * 2 := by
  induction l with
  | nil => rfl
  | cons p l ih => simp [pcells, ih]; omega
theorem pcells_app (l m : List (Int × Int)) : pcells (l ++ m) = pcells l ++ pcells m := by
  induction l with
  | nil => rfl
  | cons p l ih => simp [pcells, ih]
theorem pcells_get (l : List (Int × Int)) : ∀ (k : Nat) (p : Int × Int), l[k]? = some p → (pcells l)[k * 2]? = some (.int .i64 p.1) ∧ (pcells l)[k * 2 + 1]? = some (.int .i64 p.2) := by
  induction l with
  | nil => intro k p h; simp at h
  | cons b l ih =>
    intro k p h
    cases k with
    | zero => simp at h; subst h; simp [pcells]
    | succ k =>
      have := ih k p (by simpa using h)
      have e : (k + 1) * 2 = k * 2 + 1 + 1 := by omega
      rw [e]
      simp only [pcells, List.getElem?_cons_succ]
      exact this
theorem pcells_one (l : List (Int × Int)) : ∀ u ∈ pcells l, u.oneCell' = true := by
  induction l with
  | nil => intro u h; simp [pcells] at h
  | cons p l ih =>
    intro u h
    simp only [pcells, List.mem_cons] at h
    rcases h with rfl | rfl | h
    · rfl
    · rfl
    · exact ih u h
def Pairs (w : World) (A : Option Addr) (l : List (Int × Int)) : Prop := Rd w A (pcells l)
theorem Pairs.ext {w w' : World} {A : Option Addr} {l : List (Int × Int)} (h : Pairs w A l) (hx : Ext w w') : Pairs w' A l := Rd.ext h hx
theorem Pairs.at_ {w : World} {A : Option Addr} {l : List (Int × Int)} {k : Nat} {p : Int × Int} (h : Pairs w A l) (hk : l[k]? = some p) :
    ∃ b off, A = some ⟨b, off, none⟩ ∧ w.cell? ⟨b, off + k * 2, none⟩ = some (.int .i64 p.1) ∧ w.cell? ⟨b, off + k * 2 + 1, none⟩ = some (.int .i64 p.2) := by
  obtain ⟨h0, h1⟩ := pcells_get l k p hk
  obtain ⟨b, off, hA, hc⟩ := Rd.at_ h (by intro e; rw [e] at h0; simp at h0)
  exact ⟨b, off, hA, hc _ _ h0, hc _ _ h1⟩
theorem elem_pair : ElemOK Try.prog 89 92 2 16 := by
  refine ⟨Try.underlying89, ?_, by decide, by decide⟩
  have h : ((Try.prog.info? 92).bind fun i => i.zero.map fun z => (i.size, i.bytes, z.cells.size)) = some (2, 16, 2) := by kernel_rfl
  cases hi : Try.prog.info? 92 with
  | none => rw [hi] at h; cases h
  | some i =>
    rw [hi] at h
    cases hz : i.zero with
    | none => simp [hz] at h
    | some z => simp [hz] at h; exact ⟨i, z, rfl, hz, h.1, h.2.1, h.2.2⟩

def rowO (g : Mat) (x k : Nat) : List (Int × Int) :=
  (((List.range k).filter fun (y : Nat) => verdictM g x y == 1).map fun (y : Nat) => ((x : Int), (y : Int)))
def orderTo (g : Mat) (n a b : Nat) : List (Int × Int) := (List.range a).flatMap (fun x => rowO g x n) ++ rowO g a b
def orderL (c : Cs) : List (Int × Int) := orderTo (gapsM allT c) c.ev.toNat c.ev.toNat 0
theorem orderTo_step (g : Mat) (n a b : Nat) : orderTo g n a (b + 1) = orderTo g n a b ++ if verdictM g a b = 1 then [((a : Int), (b : Int))] else [] := by
  unfold orderTo rowO
  rw [List.range_succ, List.filter_append, List.map_append, List.append_assoc]
  congr 2
  by_cases h : verdictM g a b = 1 <;> simp [h]
theorem orderTo_next (g : Mat) (n a : Nat) : orderTo g n a n = orderTo g n (a + 1) 0 := by
  unfold orderTo
  rw [List.range_succ, List.flatMap_append]
  simp [rowO]
def OrderPost (w : World) (c : Cs) (e : Ending) (w' : World) : Prop :=
  ∃ r, e = .returned (.tuple #[r, .int .i64 (toldC c)]) ∧ Ext w w' ∧ (toldC c ≠ 0 → r = .slice none 0 0) ∧ (toldC c = 0 → ∃ A k, r = .slice A (orderL c).length k ∧ w'.ownsRow w.heap.size 92 2 (.slice A (orderL c).length k) (orderL c).length (pcells (orderL c)))

set_option maxRecDepth 100000 in
set_option maxHeartbeats 4000000 in
theorem order_any (v : Value) (c : Cs) (w : World) (hc : CsR w v c) (hs : c.sized) : Calls Try.prog 51 #[v] w (OrderPost w c) := by
  have hc' := hc
  obtain ⟨A1, c1, A2, c2, rfl, hB, hC⟩ := hc
  obtain ⟨T, hT⟩ : ∃ T, toldC c = T := ⟨_, rfl⟩
  have HT := hid hT
  go_enter Try.func51, Try.ntmps51
  go_wp2_with fail
  have hx0 : Ext w (w.alloc (.cells #[.int .i64 c.ev, .slice A1 c.bs.length c1, .int .i64 c.wi, .slice A2 c.cl.length c2] 26)) := Ext.alloc (Ext.refl w) _
  refine (told_any _ c _ (hc'.ext hx0) hs).mono ?_
  rw [hT]
  clear hT
  rintro e w1 ⟨r, rfl, hb1, hr1, hr2⟩
  have hx1 := hx0.trans hb1
  have kc0 := hb1.cell (p := ⟨w.heap.size, 0, none⟩) (u := .int .i64 c.ev) (by simp [go_sem])
  by_cases h0 : T = 0
  · have hr := hr1 h0
    have HC0 := toldC_check (HT.out.trans h0)
    obtain ⟨ev1, ev8⟩ := checkC_ev HC0
    subst h0
    obtain ⟨n, hn⟩ : ∃ n : Nat, c.ev = n := ⟨c.ev.toNat, by omega⟩
    have HN := hid hn
    obtain ⟨g, hg⟩ : ∃ g, gapsM allT c = g := ⟨_, rfl⟩
    have HG := hid hg
    rw [hg] at hr
    rw [hn] at kc0
    have hn8 : n ≤ 8 := by omega
    have HDK := hid hr
    clear hr1 hr2 hn hg ev1 ev8 hr HC0
    go_wp2
    go_loopw [6, 19] (fun o i wr => ∃ (a : Nat) (A : Option Addr) (k : Nat) (L : List (Int × Int)), o = .slice A L.length k ∧ i = .int .i64 (a : Int) ∧ a ≤ n ∧ L.length ≤ 8 * a ∧ Hid (L = orderTo g n a 0) ∧ Hid (wr.ownsRow w1.heap.size 92 2 (.slice A L.length k) L.length (pcells L)) ∧ Ext w1 wr) (fun _ i _ => n - (intOf i).toNat)
    case atStart => exact ⟨0, none, 0, [], rfl, rfl, Nat.zero_le _, by simp, by unfold Hid; simp [orderTo, rowO], own_nil _ _ _ _, Ext.refl _⟩
    case round =>
      obtain ⟨a, A, k, L, rfl, rfl, ha, hL, HL, O, hx⟩ := hrel
      by_cases hlt : a < n
      · have hlt' : (a : Int) < (n : Int) := by omega
        have kc1 := hx.cell kc0
        obtain ⟨wo, rfl⟩ : ∃ wo : World, wo = wr := ⟨_, rfl⟩
        go_wp2
        clear kc1
        go_loopw [6, 24] (fun o i wr => ∃ (b : Nat) (A : Option Addr) (k : Nat) (L : List (Int × Int)), o = .slice A L.length k ∧ i = .int .i64 (b : Int) ∧ b ≤ n ∧ L.length ≤ 8 * a + b ∧ Hid (L = orderTo g n a b) ∧ Hid (wr.ownsRow w1.heap.size 92 2 (.slice A L.length k) L.length (pcells L)) ∧ Ext w1 wr) (fun _ i _ => n - (intOf i).toNat)
        case atStart => exact ⟨0, A, k, L, rfl, rfl, Nat.zero_le _, by omega, HL, O, hx⟩
        case round =>
          obtain ⟨b, A, k, L, rfl, rfl, hb, hL, HL, O, hx⟩ := hrel
          by_cases hltb : b < n
          · have hltb' : (b : Int) < (n : Int) := by omega
            have HST := hid (orderTo_step g n a b)
            go_wp2_with fail
            have K := verdict_any r c g wr (HDK.out.ext hx) a b (by omega) (by omega)
            by_cases hv : verdictM g a b = 1
            · have HS2 : Hid (orderTo g n a (b + 1) = L ++ [((a : Int), (b : Int))]) := by unfold Hid; rw [HST.out, if_pos hv, HL.out]
              rw [hv] at K
              refine K.mono ?_
              rintro e w2 ⟨rfl, rfl⟩
              obtain ⟨wr, rfl⟩ : ∃ wr : World, wr = w2 := ⟨_, rfl⟩
              have hsz := hx.size
              have hx1s := hx1.size
              have hxo := Ext.alloc (Ext.refl wr) (.cells #[.int .i64 (a : Int), .int .i64 (b : Int)] 92)
              have hbase : w1.heap.size ≤ (wr.alloc (.cells #[.int .i64 (a : Int), .int .i64 (b : Int)] 92)).heap.size := by have := hxo.size; omega
              have O2 := hid (own_below O.out hxo)
              have hLb : (L.length + 1) * 16 ≤ 140737488355328 := by omega
              clear HST hv K HL O
              go_wp2_with (at_builtin; refine wpList_append_rd _ rfl _ _ 89 rfl elem_pair w1.heap.size _ L.length (pcells L) rfl O2.out _ 1 1 (pcells [((a : Int), (b : Int))]) rfl rfl (rd_block (heap_alloc_new wr _)) (pcells_one _) hLb hbase ?_)
              intro A5 c5 w5 hown5 hbel5 hgr5 _
              have hx5 : Ext w1 w5 := Below.trans (hx.trans hxo) hbel5
              have HL5 : Hid ((L ++ [((a : Int), (b : Int))]).length = L.length + 1) := by unfold Hid; simp
              have O5 : Hid (w5.ownsRow w1.heap.size 92 2 (.slice A5 (L ++ [((a : Int), (b : Int))]).length c5) (L ++ [((a : Int), (b : Int))]).length (pcells (L ++ [((a : Int), (b : Int))]))) := by
                unfold Hid; rw [HL5.out, pcells_app]; exact hown5
              have hl9 : (L ++ [((a : Int), (b : Int))]).length ≤ 8 * a + (b + 1) := by have := HL5.out; omega
              have hsl : Value.slice A5 (L.length + 1) c5 = .slice A5 (L ++ [((a : Int), (b : Int))]).length c5 := by simp
              have HSL := hid hsl
              clear hown5 hbel5 hgr5 O2 hxo hsl
              go_wp2
              go_roundw
              case rel => exact ⟨b + 1, A5, c5, L ++ [((a : Int), (b : Int))], HSL.out, by go_num, by omega, hl9, HS2.out.symm, O5, hx5⟩
              case measure => simp [intOf]; omega
            · have HS2 : Hid (orderTo g n a (b + 1) = L) := by unfold Hid; rw [HST.out, if_neg hv, HL.out, List.append_nil]
              obtain ⟨V, hV⟩ : ∃ V, verdictM g a b = V := ⟨_, rfl⟩
              rw [hV] at K hv
              have hvb : (V == 1) = false := by simpa using hv
              clear hV HST HL hv
              refine K.mono ?_
              rintro e w2 ⟨rfl, rfl⟩
              clear K
              go_wp2
              go_roundw
              case rel => exact ⟨b + 1, A, k, L, rfl, by go_num, by omega, by omega, HS2.out.symm, O, hx⟩
              case measure => simp [intOf]; omega
          · have hltb' : ¬ (b : Int) < (n : Int) := by omega
            have HL2 : Hid (L = orderTo g n (a + 1) 0) := by
              unfold Hid
              rw [HL.out, show b = n by omega, orderTo_next]
            go_wp2
            go_roundw
            case rel => exact ⟨a + 1, A, k, L, rfl, by go_num, by omega, by omega, HL2, O, hx⟩
            case measure => simp [intOf]; omega
      · have hlt' : ¬ (a : Int) < (n : Int) := by omega
        have HL2 : Hid (L = orderL c) := by
          unfold Hid orderL
          rw [HL.out, HG.out, HN.out, show a = n by omega]; rfl
        go_wp2
        go_ret2
        exact ⟨.slice A L.length k, by rw [HT.out]; rfl, hx1.trans hx, fun h => absurd HT.out h, fun _ => ⟨A, k, by rw [← HL2.out], by rw [← HL2.out]; exact own_base O.out hx1.size⟩⟩
  · have H0 := hid h0
    have hr := hr2 h0
    subst hr
    clear hr1 hr2
    go_wp2
    go_ret2
    exact ⟨.slice none 0 0, by rw [HT.out]; rfl, hx1, fun _ => rfl, fun h => absurd (HT.out.symm.trans h) H0.out⟩

/-! slices.Contains over pairs -/
def memP (p : Int × Int) (l : List (Int × Int)) : Bool := l.any fun q => p == q
theorem memP_iff {p : Int × Int} {l : List (Int × Int)} : memP p l = true ↔ p ∈ l := by
  unfold memP
  rw [List.any_eq_true]
  exact ⟨fun ⟨q, h, e⟩ => by rw [beq_iff_eq.1 e]; exact h, fun h => ⟨p, h, by simp⟩⟩
theorem pair_beq (p q : Int × Int) : ([p.1, p.2] == [q.1, q.2]) = (p == q) := by
  obtain ⟨a, b⟩ := p
  obtain ⟨c, d⟩ := q
  show ((a == c) && ((b == d) && true)) = ((a == c) && (b == d))
  rw [Bool.and_true]
set_option maxRecDepth 100000 in
set_option maxHeartbeats 2000000 in
theorem indexP_any (A : Option Addr) (k0 : Nat) (l : List (Int × Int)) (p : Int × Int) (w : World) (hA : Pairs w A l) (hl : l.length ≤ 1000000) :
    Calls Try.prog 105 #[.slice A l.length k0, .agg #[.int .i64 p.1, .int .i64 p.2]] w fun e w' => e = .returned (.int .i64 (idxF (fun q => p == q) l 0)) ∧ Ext w w' := by
  have HF : Hid (idxF (fun q => p == q) l 0 = idxF (fun q => p == q) (l.drop 0) 0) := rfl
  generalize hF : idxF (fun q => p == q) l 0 = F at HF ⊢
  clear hF
  go_enter Try.func105, Try.ntmps105
  go_wp2
  have x0 := Ext.alloc (Ext.refl w) (.cells #[.int .i64 p.1, .int .i64 p.2] 92)
  have k0' : (w.alloc (.cells #[.int .i64 p.1, .int .i64 p.2] 92)).cell? ⟨w.heap.size, 0, none⟩ = some (.int .i64 p.1) := by simp [go_sem]
  have k1' : (w.alloc (.cells #[.int .i64 p.1, .int .i64 p.2] 92)).cell? ⟨w.heap.size, 1, none⟩ = some (.int .i64 p.2) := by simp [go_sem]
  generalize hWo : w.alloc (.cells #[.int .i64 p.1, .int .i64 p.2] 92) = Wo at x0 k0' k1' ⊢
  clear hWo
  go_loopw [5, 8] (fun _ i wr => ∃ kk : Nat, kk ≤ l.length ∧ i = .int .i64 (kk : Int) ∧ Ext Wo wr ∧ Hid (F = idxF (fun q => p == q) (l.drop kk) kk)) (fun _ i _ => l.length - (intOf i).toNat)
  case atStart => exact ⟨0, Nat.zero_le _, rfl, Ext.refl _, HF⟩
  case round =>
    obtain ⟨kk, hk, rfl, hx, HF⟩ := hrel
    by_cases hlt : kk < l.length
    · have hlt' : (kk : Int) < (l.length : Int) := by omega
      obtain ⟨q, hq⟩ := get_of_lt l kk hlt
      obtain ⟨b, off, rfl, c0, c1⟩ := (hA.ext (x0.trans hx)).at_ hq
      have HD := hid (idxF_drop (fun q => p == q) l kk q hq)
      have r0 := hx.cell k0'
      have r1 := hx.cell k1'
      clear hq
      go_wp2
      have FX0 : ∀ w', Ext wr w' → w'.cell? ⟨w.heap.size, 0, none⟩ = some (.int .i64 p.1) ∧ w'.cell? ⟨w.heap.size, 1, none⟩ = some (.int .i64 p.2) ∧ w'.cell? ⟨b, off + kk * 2, none⟩ = some (.int .i64 q.1) ∧ w'.cell? ⟨b, off + kk * 2 + 1, none⟩ = some (.int .i64 q.2) :=
        fun w' h => ⟨h.cell r0, h.cell r1, h.cell c0, h.cell c1⟩
      have FX := hid FX0
      clear FX0 r0 r1 c0 c1
      refine wp_region_opens Ext (fun w' => Ext wr w') (fun _ => none) (by kernel_rfl) (by kernel_rfl) (fun _ _ h k => h.trans k) (fun i R hR => by cases hR) (Ext.drew (Ext.refl wr)) ?_
      refine wpM_val ?u0 rfl rfl Ext.refl (fun w' hD => ?h0) ?n0
      case h0 =>
        obtain ⟨d0, d1, d2, d3⟩ := FX.out w' hD.1
        go_simp; rfl
      simp only [Act.put, List.setIfInBounds_toArray, List.set_cons_succ, List.set_cons_zero, Nat.reduceAdd]
      refine wpM_val ?u1 rfl rfl Ext.refl (fun w' hD => ?h1) ?n1
      case h1 =>
        obtain ⟨d0, d1, d2, d3⟩ := FX.out w' hD.1
        go_simp; rfl
      simp only [Act.put, List.setIfInBounds_toArray, List.set_cons_succ, List.set_cons_zero, Nat.reduceAdd]
      refine wpM_val ?u2 rfl rfl Ext.refl (fun w' hD => ?h2) ?n2
      case h2 =>
        obtain ⟨d0, d1, d2, d3⟩ := FX.out w' hD.1
        go_simp; rfl
      simp only [Act.put, List.setIfInBounds_toArray, List.set_cons_succ, List.set_cons_zero, Nat.reduceAdd]
      refine wpM_val ?u3 rfl rfl Ext.refl (fun w' hD => ?h3) ?n3
      case h3 =>
        obtain ⟨d0, d1, d2, d3⟩ := FX.out w' hD.1
        go_simp; rfl
      simp only [Act.put, List.setIfInBounds_toArray, List.set_cons_succ, List.set_cons_zero, Nat.reduceAdd]
      refine wpM_val ?u4 rfl rfl Ext.refl (fun w' hD => ?h4) ?n4
      case h4 =>
        obtain ⟨d0, d1, d2, d3⟩ := FX.out w' hD.1
        go_simp; rfl
      simp only [Act.put, List.setIfInBounds_toArray, List.set_cons_succ, List.set_cons_zero, Nat.reduceAdd]
      refine wpM_val (.bool ([p.1, p.2] == [q.1, q.2])) rfl rfl Ext.refl (fun w' hD => ?hc5) ?nc5
      case hc5 =>
        refine run_eql_op w' _ 92 92 (.tmp 11) (.tmp 15) ?_ #[.int .i64 p.1, .int .i64 p.2] #[.int .i64 q.1, .int .i64 q.2] ?_ ?_ _ Try.eqGuardType92 (run_equalIn_arr1 w' 9998 92 3 .i64 2 Try.underlying92 Try.underlying3 (by kernel_rfl) (by kernel_rfl) [p.1, p.2] [q.1, q.2] rfl rfl)
        · rfl
        · rfl
        · rfl
      simp only [Act.put, List.setIfInBounds_toArray, List.set_cons_succ, List.set_cons_zero, Nat.reduceAdd]
      refine wpM_nil ?_
      intro w9 hw9 hF9
      rw [pair_beq]
      have hx9 := hx.trans hw9
      clear hF9 FX
      by_cases hpq : p = q
      · have hb : (p == q) = true := by simpa using hpq
        have HE : Hid (F = (kk : Int)) := by unfold Hid; rw [HF.out, HD.out, if_pos hb]
        rw [hb]
        clear hb hpq
        go_wp2
        go_ret
        exact ⟨ret_of (int_of HE.out.symm), x0.trans hx9⟩
      · have hb : (p == q) = false := by simpa using hpq
        have HE : Hid (F = idxF (fun q => p == q) (l.drop (kk + 1)) (kk + 1)) := by unfold Hid; rw [HF.out, HD.out, if_neg (by rw [hb]; simp)]
        rw [hb]
        clear hb hpq
        go_wp2
        go_roundw
        case rel => exact ⟨kk + 1, by omega, by go_num, hx9, HE⟩
        case measure => simp [intOf]; omega
    · have hlt' : ¬ (kk : Int) < (l.length : Int) := by omega
      have HE : Hid (F = -1) := by unfold Hid; rw [HF.out, idxF_end _ _ _ (by omega)]
      go_wp2
      go_ret
      exact ⟨ret_of (int_of HE.out.symm), x0.trans hx⟩
theorem containsP_any (A : Option Addr) (k0 : Nat) (l : List (Int × Int)) (p : Int × Int) (w : World) (hA : Pairs w A l) (hl : l.length ≤ 1000000) :
    Calls Try.prog 52 #[.slice A l.length k0, .agg #[.int .i64 p.1, .int .i64 p.2]] w fun e w' => e = .returned (.bool (memP p l)) ∧ Ext w w' := by
  have HM := hid (idxF_nonneg (fun q => p == q) l 0)
  go_enter Try.func52, Try.ntmps52
  go_wp2_with fail
  have x0 := Ext.alloc (Ext.refl w) (.cells #[.int .i64 p.1, .int .i64 p.2] 92)
  refine (indexP_any A k0 l p _ (hA.ext x0) hl).mono ?_
  rintro e w1 ⟨rfl, hb⟩
  go_wp2
  go_ret
  exact ⟨ret_of (bool_of HM.out), x0.trans hb⟩
end Go.Proofs.Ytgnjhaomlbkgcaa

namespace Go.Proofs.Ytgnjhaomlbkgcaa
open Go Go.RowKit
set_option linter.unusedVariables false
set_option linter.unusedSimpArgs false

def toldBC (c : Cs) (b : Bd) : Int := if checkC c ≠ 0 then checkC c else if bdsC c.ev [b] ≠ 0 then bdsC c.ev [b] else if b.f = b.t then 5 else if c.bs.length = 20 then 2 else 0
def Cs.add (c : Cs) (b : Bd) : Cs := { c with bs := c.bs ++ [b] }
theorem mem_rowO {g : Mat} {x k : Nat} {p : Int × Int} : p ∈ rowO g x k ↔ ∃ y : Nat, y < k ∧ verdictM g x y = 1 ∧ p = ((x : Int), (y : Int)) := by
  unfold rowO
  simp only [List.mem_map, List.mem_filter, List.mem_range, beq_iff_eq]
  exact ⟨fun ⟨y, ⟨h1, h2⟩, h3⟩ => ⟨y, h1, h2, h3.symm⟩, fun ⟨y, h1, h2, h3⟩ => ⟨y, ⟨h1, h2⟩, h3.symm⟩⟩
theorem mem_orderL {c : Cs} {p : Int × Int} (hev : 0 ≤ c.ev) : p ∈ orderL c ↔ ∃ x y : Nat, (x : Int) < c.ev ∧ (y : Int) < c.ev ∧ verdictM (gapsM allT c) x y = 1 ∧ p = ((x : Int), (y : Int)) := by
  unfold orderL orderTo
  rw [show rowO (gapsM allT c) c.ev.toNat 0 = [] by simp [rowO], List.append_nil, List.mem_flatMap]
  constructor
  · rintro ⟨x, hx, hp⟩
    obtain ⟨y, h1, h2, h3⟩ := mem_rowO.1 hp
    have := List.mem_range.1 hx
    exact ⟨x, y, by omega, by omega, h2, h3⟩
  · rintro ⟨x, y, hx, hy, hv, hp⟩
    exact ⟨x, List.mem_range.2 (by omega), mem_rowO.2 ⟨y, by omega, hv, hp⟩⟩
theorem add_all_mem {c : Cs} {b x : Bd} : x ∈ (c.add b).all ↔ x ∈ c.all ∨ x = b := by
  rw [all_mem, all_mem]
  unfold Cs.add
  simp only [List.mem_append, List.mem_singleton]
  constructor
  · rintro ((h | h) | h)
    · exact .inl (.inl h)
    · exact .inr h
    · exact .inl (.inr h)
  · rintro ((h | h) | h)
    · exact .inl (.inl h)
    · exact .inr h
    · exact .inl (.inr h)
theorem add_check {evm bm cm : Nat} {lo l2 h2 : Int} {c : Cs} {real : List Int} {b : Bd} (h : MadeOK evm bm cm lo c real) (hlo : lo ≤ 0) (hlo2 : -500 ≤ lo) (he : evm ≤ 8) (hb : bm < 20) (hc : cm ≤ 8) (hl2 : -500 ≤ l2) (hh2 : h2 ≤ 500) (hbd : bdMade c.ev real l2 h2 b) : checkC (c.add b) = 0 := by
  have hb1 : (c.bs ++ [b]).length = c.bs.length + 1 := by simp
  refine checkC_of ⟨by show 1 ≤ c.ev; have := h.ev2; omega, by show c.ev ≤ 8; have := h.evm; omega⟩ (by show (c.bs ++ [b]).length ≤ 20; have := h.bsl; omega) h.wi (Nat.le_trans h.cll hc) (fun x hx => ⟨by have := (h.cl x hx).2.1; omega, (h.cl x hx).1⟩) (fun x hq => ?_)
  have r1 := getD_real h.real_ x.t.toNat
  have r2 := getD_real h.real_ x.f.toNat
  rcases add_all_mem.1 hq with h1 | rfl
  · obtain ⟨p1, p2, p3, p4, p5⟩ := h.all_ hlo x h1
    exact ⟨p1, p2, p3, by omega, by omega⟩
  · obtain ⟨p1, p2, p3, p4, p5⟩ := hbd
    exact ⟨p1, p2, p3, by omega, by omega⟩
theorem add_told {evm bm cm : Nat} {lo l2 h2 : Int} {c : Cs} {real : List Int} {b : Bd} (h : MadeOK evm bm cm lo c real) (hlo : lo ≤ 0) (hlo2 : -500 ≤ lo) (he : evm ≤ 8) (hb : bm < 20) (hc : cm ≤ 8) (hl2 : -500 ≤ l2) (hh2 : h2 ≤ 500) (hbd : bdMade c.ev real l2 h2 b) : toldBC c b = 0 := by
  have h0 := h.check hlo hlo2 he (by omega) hc
  obtain ⟨p1, p2, p3, p4, p5⟩ := hbd
  have r1 := getD_real h.real_ b.t.toNat
  have r2 := getD_real h.real_ b.f.toNat
  have e1 : bdsC c.ev [b] = 0 := by
    unfold bdsC
    have a1 : limOK [b] = true := by simp only [limOK, List.all_cons, List.all_nil, Bool.and_true, inB_iff]; omega
    have a2 : evOK c.ev [b] = true := by simp only [evOK, List.all_cons, List.all_nil, Bool.and_true, Bool.and_eq_true, inB_iff]; omega
    rw [a1, a2]; rfl
  unfold toldBC
  rw [if_neg (by rw [h0]; simp), if_neg (by rw [e1]; simp), if_neg p3, if_neg (by have := h.bsl; omega)]
theorem told_ok {c : Cs} (h0 : checkC c = 0) : toldC c = 0 ∨ toldC c = 7 := by
  unfold toldC
  rw [if_pos h0]
  cases clashM (gapsM allT c) <;> simp
theorem told_fine {c : Cs} (h : toldC c = 0) : Fine c.all := by
  have h0 := toldC_check h
  unfold toldC at h
  rw [if_pos h0] at h
  have h1 : clashM (gapsM allT c) = false := by cases hq : clashM (gapsM allT c) with
    | false => rfl
    | true => rw [hq] at h; cases h
  have := fine_of h0 h1
  rwa [belL_all] at this
structure ToldLaw (c u : Cs) (real : List Int) (x y : Nat) : Prop where
  be : (beforeOf c x y).2 = 0
  bu : (beforeOf u x y).2 = 0
  keep : (beforeOf c x y).1 ≠ 0 → (beforeOf u x y).1 = (beforeOf c x y).1
  gap : (gapOf c x y).2 = 0 → (gapOf u x y).2 = 0 ∧ (gapOf u x y).1 ≤ (gapOf c x y).1
  yes : (beforeOf c x y).1 = 1 ↔ ((x : Int), (y : Int)) ∈ orderL c
  yesu : (beforeOf u x y).1 = 1 ↔ ((x : Int), (y : Int)) ∈ orderL u
theorem verdict_keep {c u : Cs} (h0 : checkC c = 0) (u0 : checkC u = 0) (hf : Fine c.all) (uf : Fine u.all) (hsub : ∀ x ∈ c.all, x ∈ u.all) {x y : Nat} (hx : x < 8) (hy : y < 8) :
    (gapsM allT c x y ≠ far → gapsM allT u x y ≠ far ∧ gapsM allT u x y ≤ gapsM allT c x y) ∧ (verdictM (gapsM allT c) x y ≠ 0 → verdictM (gapsM allT u) x y = verdictM (gapsM allT c) x y) := by
  have hf' : Fine (belL allT c) := by rw [belL_all]; exact hf
  have uf' : Fine (belL allT u) := by rw [belL_all]; exact uf
  have key : ∀ a b : Nat, a < 8 → b < 8 → gapsM allT c a b ≠ far → gapsM allT u a b ≠ far ∧ gapsM allT u a b ≤ gapsM allT c a b := fun a b ha hb hn => by
    obtain ⟨l, hl, hs⟩ := gap_row h0 ha hb hn
    have hl2 : Row (belL allT u) a b l := hl.mono (fun z hz => by rw [belL_all] at hz ⊢; exact hsub z hz)
    have := gap_le u0 uf' ha hb hl2
    exact ⟨gap_lt_far u0 uf' ha hb hl2, by omega⟩
  refine ⟨key x y hx hy, fun hv => ?_⟩
  unfold verdictM at hv ⊢
  by_cases h1 : gapsM allT c y x < 0
  · have := key y x hy hx (by unfold far; omega)
    rw [if_pos (by omega), if_pos h1]
  · rw [if_neg h1] at hv ⊢
    by_cases h2 : gapsM allT c x y ≤ 0
    · have k2 := key x y hx hy (by unfold far; omega)
      have h3 : ¬ gapsM allT u y x < 0 := fun hlt => by
        obtain ⟨l1, r1, s1⟩ := gap_row u0 hx hy k2.1
        obtain ⟨l2, r2, s2⟩ := gap_row u0 hy hx (by unfold far; omega : gapsM allT u y x ≠ far)
        have := uf' x _ hx (r1.app r2)
        rw [sumW_app] at this
        omega
      rw [if_neg h3, if_pos (by omega), if_pos h2]
    · rw [if_neg h2] at hv; exact absurd rfl hv
theorem told_law {c u : Cs} {real : List Int} (h0 : checkC c = 0) (u0 : checkC u = 0) (hf : Fine c.all) (uf : Fine u.all) (hev : u.ev = c.ev) (hsub : ∀ x ∈ c.all, x ∈ u.all) (hev8 : c.ev ≤ 8) {x y : Nat} (hx : (x : Int) < c.ev) (hy : (y : Int) < c.ev) : ToldLaw c u real x y := by
  have K := verdict_keep h0 u0 hf uf hsub (show x < 8 by omega) (show y < 8 by omega)
  have ux : (x : Int) < u.ev := by omega
  have uy : (y : Int) < u.ev := by omega
  have e1 := before_is h0 hf hx hy
  have e2 := before_is u0 uf ux uy
  have e3 := gap_is h0 hf hx hy
  have e4 := gap_is u0 uf ux uy
  have hme : ∀ d : Cs, checkC d = 0 → d.ev = c.ev → (verdictM (gapsM allT d) x y = 1 ↔ ((x : Int), (y : Int)) ∈ orderL d) := fun d hd he => by
    have := (checkC_ev hd).1
    rw [mem_orderL (by omega)]
    constructor
    · intro h; exact ⟨x, y, by omega, by omega, h, rfl⟩
    · rintro ⟨x', y', _, _, h, e⟩
      have e5 : (x : Int) = x' := congrArg Prod.fst e
      have e6 : (y : Int) = y' := congrArg Prod.snd e
      have e7 : x = x' := by omega
      have e8 : y = y' := by omega
      rw [e7, e8]; exact h
  refine ⟨by rw [e1], by rw [e2], by rw [e1, e2]; exact K.2, ?_, by rw [e1]; exact hme c h0 rfl, by rw [e2]; exact hme u u0 hev⟩
  rw [e3, e4]
  by_cases hfar : gapsM allT c x y = far
  · rw [if_pos hfar]; intro h; cases h
  · obtain ⟨k1, k2⟩ := K.1 hfar
    rw [if_neg hfar, if_neg k1]
    exact fun _ => ⟨rfl, k2⟩
theorem order_real {c : Cs} {real : List Int} (h0 : checkC c = 0) (ht : TruthOf c.all (fun k => real.getD k 0)) {p : Int × Int} (hp : p ∈ orderL c) : real.getD p.1.toNat 0 < real.getD p.2.toNat 0 := by
  have hev := (checkC_ev h0)
  obtain ⟨x, y, hx, hy, hv, rfl⟩ := (mem_orderL (by omega)).1 hp
  have hg : gapsM allT c y x < 0 := by
    unfold verdictM at hv
    split at hv
    · assumption
    · split at hv <;> cases hv
  have ht' : TruthOf (belL allT c) (fun k => real.getD k 0) := by rw [belL_all]; exact ht
  have := ht'.gap h0 (a := y) (b := x) (by omega) (by omega) (by unfold far; omega)
  simp only [Int.toNat_natCast]
  omega
theorem rowO_len (g : Mat) (x k : Nat) : (rowO g x k).length ≤ k := by
  unfold rowO
  rw [List.length_map]
  exact Nat.le_trans (List.length_filter_le _ _) (by simp)
theorem flat_rows (g : Mat) (n : Nat) : ∀ a : Nat, ((List.range a).flatMap (fun x => rowO g x n)).length ≤ a * n := by
  intro a
  induction a with
  | zero => simp
  | succ a ih =>
    rw [List.range_succ, List.flatMap_append, List.length_append, Nat.succ_mul]
    have := rowO_len g a n
    simp only [List.flatMap_cons, List.flatMap_nil, List.append_nil]
    omega
theorem orderL_len {c : Cs} (h : c.ev ≤ 8) : (orderL c).length ≤ 64 := by
  unfold orderL orderTo
  rw [show rowO (gapsM allT c) c.ev.toNat 0 = [] by simp [rowO], List.append_nil]
  refine Nat.le_trans (flat_rows _ _ _) ?_
  have h1 : c.ev.toNat ≤ 8 := by omega
  exact Nat.mul_le_mul h1 h1
theorem order_sub {c u : Cs} (h0 : checkC c = 0) (u0 : checkC u = 0) (hf : Fine c.all) (uf : Fine u.all) (hev : u.ev = c.ev) (hsub : ∀ x ∈ c.all, x ∈ u.all) {p : Int × Int} (hp : p ∈ orderL c) : p ∈ orderL u := by
  have e1 := checkC_ev h0
  have e2 := checkC_ev u0
  obtain ⟨x, y, hx, hy, hv, rfl⟩ := (mem_orderL (by omega)).1 hp
  refine (mem_orderL (by omega)).2 ⟨x, y, by omega, by omega, ?_, rfl⟩
  rw [(verdict_keep h0 u0 hf uf hsub (show x < 8 by omega) (show y < 8 by omega)).2 (by rw [hv]; decide), hv]
end Go.Proofs.Ytgnjhaomlbkgcaa

namespace Go.Proofs.Ytgnjhaomlbkgcaa
open Go Go.RowKit Go.Shelf
set_option linter.unusedVariables false
set_option linter.unusedSimpArgs false

/-- A function value that turns bounds into others. -/
def MapB (P : Program) (fv : Value) (w : World) (S : Bd → Prop) (f : Bd → Bd) : Prop :=
  ∃ (g : Nat) (fst lb : Array Value), fv = .func (.func g) fst lb ∧ (∀ args W, (callFunc g args).run P W = .ok (.enter g args) W) ∧
    ∀ (x : Bd) (W : World), S x → Kc w W → Calls P g (fst.push x.val ++ lb) W fun e W' => e = .returned (f x).val ∧ Ext W W'
theorem MapB.kc {P : Program} {fv : Value} {w w' : World} {S : Bd → Prop} {f : Bd → Bd} (h : MapB P fv w S f) (hx : Kc w w') : MapB P fv w' S f := by
  obtain ⟨g, fst, lb, rfl, he, hc⟩ := h
  exact ⟨g, fst, lb, rfl, he, fun x W hs hW => hc x W hs (hx.trans hW)⟩

set_option maxHeartbeats 1000000 in
theorem later_any (Bb : Nat) (by_ : Int) (b : Bd) (w : World) (hb : w.cell? ⟨Bb, 0, none⟩ = some (.int .u8 by_)) (h0 : 0 ≤ by_) (h1 : by_ ≤ 255) (m1 : -2000 ≤ b.m) (m2 : b.m ≤ 2000) :
    Calls Try.prog 18 #[b.val, .pointer (some ⟨Bb, 0, none⟩)] w fun e w' => e = .returned (laterB by_ b).val ∧ Ext w w' := by
  obtain ⟨f, t, m⟩ := b
  simp only at m1 m2
  have qb := fun o o' => (Ext.alloc (Ext.alloc (Ext.refl w) o) o').cell hb
  obtain ⟨R, hR⟩ : ∃ R, laterB by_ ⟨f, t, m⟩ = R := ⟨_, rfl⟩
  have HR := hid hR
  rw [hR]
  clear hR
  unfold Bd.val
  by_cases hf : f = 0
  · have hq : (f == 0) = true := by simpa using hf
    have HV : Hid (R = ⟨f, t, m + by_⟩) := by unfold Hid; rw [← HR.out]; unfold laterB; rw [if_pos (show (⟨f, t, m⟩ : Bd).f = 0 from hf)]
    clear hf
    go_enter Try.func18, Try.ntmps18
    go_wp2
    refine bodyPost_ret (v := .agg #[.int .i64 f, .int .i64 t, .int .i64 (m + by_)]) ?_ rfl ⟨by rw [HV.out], Ext.alloc (Ext.alloc (Ext.refl w) _) _⟩
    simp [results, Try.results18, go_sem]
  · by_cases ht : t = 0
    · have hq : (f == 0) = false := by simpa using hf
      have hq2 : (t == 0) = true := by simpa using ht
      have HV : Hid (R = ⟨f, t, m - by_⟩) := by unfold Hid; rw [← HR.out]; unfold laterB; rw [if_neg (show ¬ (⟨f, t, m⟩ : Bd).f = 0 from hf), if_pos (show (⟨f, t, m⟩ : Bd).t = 0 from ht)]
      clear hf ht
      go_enter Try.func18, Try.ntmps18
      go_wp2
      refine bodyPost_ret (v := .agg #[.int .i64 f, .int .i64 t, .int .i64 (m - by_)]) ?_ rfl ⟨by rw [HV.out], Ext.alloc (Ext.alloc (Ext.refl w) _) _⟩
      simp [results, Try.results18, go_sem]
    · have hq : (f == 0) = false := by simpa using hf
      have hq2 : (t == 0) = false := by simpa using ht
      have HV : Hid (R = ⟨f, t, m⟩) := by unfold Hid; rw [← HR.out]; unfold laterB; rw [if_neg (show ¬ (⟨f, t, m⟩ : Bd).f = 0 from hf), if_neg (show ¬ (⟨f, t, m⟩ : Bd).t = 0 from ht)]
      clear hf ht
      go_enter Try.func18, Try.ntmps18
      go_wp2
      refine bodyPost_ret (v := .agg #[.int .i64 f, .int .i64 t, .int .i64 m]) ?_ rfl ⟨by rw [HV.out], Ext.alloc (Ext.alloc (Ext.refl w) _) _⟩
      simp [results, Try.results18, go_sem]
theorem later_map (Bb : Nat) (by_ : Int) (w : World) (hb : w.cell? ⟨Bb, 0, none⟩ = some (.int .u8 by_)) (h0 : 0 ≤ by_) (h1 : by_ ≤ 255) :
    MapB Try.prog (.func (.func 18) #[] #[.pointer (some ⟨Bb, 0, none⟩)]) w (fun b => -2000 ≤ b.m ∧ b.m ≤ 2000) (laterB by_) :=
  ⟨_, _, _, rfl, enters_of Try.func18 (by kernel_rfl) rfl, fun x W hs hW => later_any Bb by_ x W (hW _ _ hb) h0 h1 hs.1 hs.2⟩

theorem back_any (b : Bd) (w : World) :
    Calls Try.prog 19 #[b.val] w fun e w' => e = .returned (backB b).val ∧ Ext w w' := by
  obtain ⟨f, t, m⟩ := b
  show Calls _ _ #[.agg #[.int .i64 f, .int .i64 t, .int .i64 m]] w fun e w' => e = .returned (.agg #[.int .i64 t, .int .i64 f, .int .i64 m]) ∧ Ext w w'
  go_enter Try.func19, Try.ntmps19
  go_wp2
  refine bodyPost_ret (v := .agg #[.int .i64 t, .int .i64 f, .int .i64 m]) ?_ rfl ⟨rfl, Ext.alloc (Ext.alloc (Ext.refl w) _) _⟩
  simp [results, Try.results19, go_sem]
theorem back_map (w : World) : MapB Try.prog (.func (.func 19) #[] #[]) w (fun b => -2000 ≤ b.m ∧ b.m ≤ 2000) backB :=
  ⟨_, _, _, rfl, enters_of Try.func19 (by kernel_rfl) rfl, fun x W _ _ => back_any x W⟩
end Go.Proofs.Ytgnjhaomlbkgcaa

namespace Go.Proofs.Ytgnjhaomlbkgcaa
open Go Go.RowKit Go.Shelf
set_option linter.unusedVariables false
set_option linter.unusedSimpArgs false

theorem bcells_set : ∀ (l : List Bd) (k : Nat) (y : Bd), k < l.length → (((bcells l).set (k * 3) (.int .i64 y.f)).set (k * 3 + 1) (.int .i64 y.t)).set (k * 3 + 2) (.int .i64 y.m) = bcells (l.set k y) := by
  intro l
  induction l with
  | nil => intro k y h; simp at h
  | cons b l ih =>
    intro k y h
    cases k with
    | zero => simp [bcells]
    | succ k =>
      have e : (k + 1) * 3 = k * 3 + 1 + 1 + 1 := by omega
      have := ih k y (by simpa using h)
      rw [e]
      simp only [bcells, List.set_cons_succ, List.set_cons_succ]
      rw [← this]
theorem own_set3 {w : World} {B g n q k : Nat} {L : List Bd} {x : Bd} (h : w.ownsRow B 35 3 (.slice (some ⟨g, 0, none⟩) n q) n (bcells L)) (hk : L[k]? = some x) (y : Bd) :
    (((w.setCell ⟨g, k * 3, none⟩ (.int .i64 y.f)).setCell ⟨g, k * 3 + 1, none⟩ (.int .i64 y.t)).setCell ⟨g, k * 3 + 2, none⟩ (.int .i64 y.m)).ownsRow B 35 3 (.slice (some ⟨g, 0, none⟩) n q) n (bcells (L.set k y)) ∧
      BelS (fun i => i = g) w (((w.setCell ⟨g, k * 3, none⟩ (.int .i64 y.f)).setCell ⟨g, k * 3 + 1, none⟩ (.int .i64 y.t)).setCell ⟨g, k * 3 + 2, none⟩ (.int .i64 y.m)) := by
  have h1 := (h.stored (k * 3) (.int .i64 y.f)).1
  have h2 := (h1.stored (k * 3 + 1) (.int .i64 y.t)).1
  have h3 := (h2.stored (k * 3 + 2) (.int .i64 y.m)).1
  rw [bcells_set L k y (List.getElem?_eq_some_iff.1 hk).1] at h3
  exact ⟨h3, (((BelS.refl _ w).setCell (S := fun i => i = g) ⟨g, k * 3, none⟩ _ rfl).setCell ⟨g, k * 3 + 1, none⟩ _ rfl).setCell ⟨g, k * 3 + 2, none⟩ _ rfl⟩
theorem set_map_drop (f : Bd → Bd) {l : List Bd} {k : Nat} {x : Bd} (hk : l[k]? = some x) : ((l.take k).map f ++ l.drop k).set k (f x) = (l.take (k + 1)).map f ++ l.drop (k + 1) := by
  have hlt := (List.getElem?_eq_some_iff.1 hk).1
  have hx := (List.getElem?_eq_some_iff.1 hk).2
  rw [List.set_append_right _ _ (by simp; omega), List.drop_eq_getElem_cons hlt, hx, List.take_succ_eq_append_getElem hlt, hx]
  simp [Nat.min_eq_left (Nat.le_of_lt hlt)]
theorem ClO.drop1 {w : World} {B : Nat} : ∀ {gs : List Nat} {xs : List Value} {x : Cl} {l : List Cl}, ClO w B gs xs (x :: l) → ∃ g gs' k ys, gs = g :: gs' ∧ xs = .int .i64 x.w :: .slice (some ⟨g, 0, none⟩) x.bs.length k :: ys ∧
    w.ownsRow B 35 3 (.slice (some ⟨g, 0, none⟩) x.bs.length k) x.bs.length (bcells x.bs) ∧ ClO w B gs' ys l
  | g :: gs, _ :: _ :: ys, _, _, ⟨h1, ⟨k, h2, h3⟩, h4⟩ => ⟨g, gs, k, ys, rfl, by rw [h1, h2], h3, h4⟩
  | [], [], _, _, h => h.elim
  | [], _ :: _, _, _, h => h.elim
  | _ :: _, [], _, _, h => h.elim
  | _ :: _, [_], _, _, h => h.elim
theorem ClO.nil_ {w : World} {B : Nat} : ∀ {gs : List Nat} {xs : List Value}, ClO w B gs xs [] → gs = [] ∧ xs = []
  | [], [], _ => ⟨rfl, rfl⟩
  | [], _ :: _, h => h.elim
  | _ :: _, [], h => h.elim
  | _ :: _, [_], h => h.elim
  | _ :: _, _ :: _ :: _, h => h.elim
def mapCl (f : Bd → Bd) (x : Cl) : Cl := { x with bs := x.bs.map f }
def TurnPost (w : World) (c : Cs) (f : Bd → Bd) (e : Ending) (w' : World) : Prop := ∃ v, e = .returned v ∧ CsR w' v (c.map f) ∧ Ext w w'

set_option maxRecDepth 100000 in
set_option maxHeartbeats 8000000 in
theorem turn_any (fv : Value) (f : Bd → Bd) (S : Bd → Prop) (Bc : Nat) (A1 : Option Addr) (k1 : Nat) (A2 : Option Addr) (k2 : Nat) (c : Cs) (w : World) (p0 : w.cell? ⟨Bc, 0, none⟩ = some (.int .i64 c.ev)) (p1 : w.cell? ⟨Bc, 1, none⟩ = some (.slice A1 c.bs.length k1))
    (p2 : w.cell? ⟨Bc, 2, none⟩ = some (.int .i64 c.wi)) (p3 : w.cell? ⟨Bc, 3, none⟩ = some (.slice A2 c.cl.length k2)) (hB : Bounds w A1 c.bs) (hC : Claims w A2 c.cl) (hfv : MapB Try.prog fv w S f) (hS : ∀ b ∈ c.all, S b)
    (l1 : c.bs.length ≤ 100) (l2 : c.cl.length ≤ 100) (l3 : ∀ x ∈ c.cl, x.bs.length ≤ 100) :
    Calls Try.prog 16 #[fv, .pointer (some ⟨Bc, 0, none⟩)] w (TurnPost w c f) := by
  obtain ⟨gf, fst, lb, rfl, eg, hcall⟩ := hfv
  have HCALL := hid hcall
  have HSC := hid hS
  have HL3 := hid l3
  clear hcall hS l3
  have q0 := fun o => (Ext.alloc (Ext.refl w) o).cell p0
  have q1 := fun o => (Ext.alloc (Ext.refl w) o).cell p1
  have q2 := fun o => (Ext.alloc (Ext.refl w) o).cell p2
  have q3 := fun o => (Ext.alloc (Ext.refl w) o).cell p3
  go_enter Try.func16, Try.ntmps16
  go_wp2_with fail
  have x0 := Ext.alloc (Ext.refl w) (.cells #[.int .i64 0, .slice none 0 0, .int .i64 0, .slice none 0 0] 26)
  have G0 := hid (heap_alloc_new w (.cells #[.int .i64 0, .slice none 0 0, .int .i64 0, .slice none 0 0] 26))
  have hsz0 : (w.alloc (.cells #[.int .i64 0, .slice none 0 0, .int .i64 0, .slice none 0 0] 26)).heap.size = w.heap.size + 1 := by simp
  refine (own_any _ c _ ⟨A1, k1, A2, k2, rfl, hB.ext x0, hC.ext x0⟩ (by omega) (by omega) (fun x hx => by have := HL3.out x hx; omega)).mono ?_
  rintro e w2 ⟨v, rfl, ⟨g1, m1, g2, m2, gs, xs, rfl, o1, o2, hco, hnd⟩, hx2⟩
  have G0 := hid ((Below.block hx2 _ (by rw [hsz0]; omega)).trans G0.out)
  rw [hsz0] at o1 o2 hco
  obtain ⟨B, hB0⟩ : ∃ B, w.heap.size + 1 = B := ⟨_, rfl⟩
  have HB := hid hB0
  rw [hB0] at o1 o2 hco
  clear hB0 q0 q1 q2 q3 hsz0
  have x2 := x0.trans hx2
  have O1 := hid o1
  have O2 := hid o2
  have HCO := hid hco
  have HND := hid hnd
  have hg1 := (o1.lt g1 rfl)
  have hg2 := (o2.lt g2 rfl)
  have hgs := hid hco.lt
  clear x0 hx2 o1 o2 hco hnd
  go_wp2
  have x3 := x2.alloc (.cells #[.int .i64 c.ev, .slice (some ⟨g1, 0, none⟩) c.bs.length m1, .int .i64 c.wi, .slice (some ⟨g2, 0, none⟩) c.cl.length m2] 26)
  have xn := Ext.alloc (Ext.refl w2) (.cells #[.int .i64 c.ev, .slice (some ⟨g1, 0, none⟩) c.bs.length m1, .int .i64 c.wi, .slice (some ⟨g2, 0, none⟩) c.cl.length m2] 26)
  have GU := hid (heap_alloc_new w2 (.cells #[.int .i64 c.ev, .slice (some ⟨g1, 0, none⟩) c.bs.length m1, .int .i64 c.wi, .slice (some ⟨g2, 0, none⟩) c.cl.length m2] 26))
  have hs2 := x2.size
  generalize hW3 : w2.alloc (.cells #[.int .i64 c.ev, .slice (some ⟨g1, 0, none⟩) c.bs.length m1, .int .i64 c.wi, .slice (some ⟨g2, 0, none⟩) c.cl.length m2] 26) = W3 at x3 xn GU ⊢
  clear hW3
  generalize hBu : w2.heap.size = Bu at *
  have HBu := hid hBu
  clear hBu
  have hB1 : B = w.heap.size + 1 := HB.out.symm
  have hBw : w.heap.size < B := by omega
  have HB1 := hid hB1
  clear hB1
  have G0 := hid ((Below.block xn w.heap.size (by have := HBu.out; omega)).trans G0.out)
  have O1 := hid (own_below O1.out xn)
  have O2 := hid (own_below O2.out xn)
  have HCO := hid (HCO.out.ext xn)
  have xa : Ext w W3 := x3
  have HNE12 : Hid (g1 ≠ g2) := ty_ne (own_ty O1.out) (own_ty O2.out) (by decide)
  have HMEMa : Hid (∀ x ∈ c.bs, S x) := fun x hx => HSC.out x (all_mem.2 (.inl hx))
  have hg1b : g1 < Bu := by have := HBu.out; omega
  have hg2b : g2 < Bu := by have := HBu.out; omega
  have hgsb : Hid (∀ g ∈ gs, B ≤ g ∧ g < Bu) := fun g hg => by have := hgs.out g hg; have := HBu.out; omega
  clear xn x3 x2 hgs
  go_loopw [16] (fun i wr => ∃ k : Nat, i = .int .i64 (k : Int) ∧ k ≤ c.bs.length ∧ Hid (wr.ownsRow B 35 3 (.slice (some ⟨g1, 0, none⟩) c.bs.length m1) c.bs.length (bcells ((c.bs.take k).map f ++ c.bs.drop k))) ∧ Ext w wr ∧ BelS (fun i => i = g1) W3 wr) (fun i _ => c.bs.length - (intOf i).toNat)
  case atStart => exact ⟨0, rfl, Nat.zero_le _, by unfold Hid; simpa using O1.out, xa, BelS.refl _ _⟩
  case round =>
    obtain ⟨k, rfl, hk, O, hx, hbs⟩ := hrel
    by_cases hlt : k < c.bs.length
    · have hlt' : (k : Int) < (c.bs.length : Int) := by omega
      obtain ⟨x, hxk⟩ := get_of_lt c.bs k hlt
      have hLk : ((c.bs.take k).map f ++ c.bs.drop k)[k]? = some x := by
        rw [List.getElem?_append_right (by simp; omega)]; simp [Nat.min_eq_left hk, hxk]
      obtain ⟨e0, e1, e2⟩ := bcells_get _ k x hLk
      have hlen3 : k * 3 + 2 < c.bs.length * 3 := by omega
      have c0 := (O.out.cellAt (k * 3) (by omega)).trans e0
      have c1 := (O.out.cellAt (k * 3 + 1) (by omega)).trans e1
      have c2 := (O.out.cellAt (k * 3 + 2) (by omega)).trans e2
      have HLK := hid hLk
      have pB := block_cell (i := 1) (hbs.heap GU.out (by show ¬ Bu = g1; omega))
      simp only [List.getElem?_toArray, List.getElem?_cons_zero, List.getElem?_cons_succ] at pB
      clear e0 e1 e2 hLk
      go_wp2
      have xo := Ext.alloc (Ext.refl wr) (.cells #[.int .i64 x.f, .int .i64 x.t, .int .i64 x.m] 35)
      have n0 : (wr.alloc (.cells #[.int .i64 x.f, .int .i64 x.t, .int .i64 x.m] 35)).cell? ⟨wr.heap.size, 0, none⟩ = some (.int .i64 x.f) := by simp [go_sem]
      have n1 : (wr.alloc (.cells #[.int .i64 x.f, .int .i64 x.t, .int .i64 x.m] 35)).cell? ⟨wr.heap.size, 1, none⟩ = some (.int .i64 x.t) := by simp [go_sem]
      have n2 : (wr.alloc (.cells #[.int .i64 x.f, .int .i64 x.t, .int .i64 x.m] 35)).cell? ⟨wr.heap.size, 2, none⟩ = some (.int .i64 x.m) := by simp [go_sem]
      generalize hWo : wr.alloc (.cells #[.int .i64 x.f, .int .i64 x.t, .int .i64 x.m] 35) = Wo at xo n0 n1 n2 ⊢
      clear hWo c0 c1 c2
      have FX0 : ∀ w', Ext Wo w' → w'.cell? ⟨Bu, 1, none⟩ = some (.slice (some ⟨g1, 0, none⟩) c.bs.length m1) ∧ w'.cell? ⟨wr.heap.size, 0, none⟩ = some (.int .i64 x.f) ∧ w'.cell? ⟨wr.heap.size, 1, none⟩ = some (.int .i64 x.t) ∧ w'.cell? ⟨wr.heap.size, 2, none⟩ = some (.int .i64 x.m) :=
        fun w' h => ⟨h.cell (xo.cell pB), h.cell n0, h.cell n1, h.cell n2⟩
      have FX := hid FX0
      clear FX0 pB n0 n1 n2
      refine wp_region_opens_tail Ext (fun w' => Ext Wo w') (fun | 5 => some (fun v _ => v = (f x).val) | _ => none) 6 (by kernel_rfl) (by kernel_rfl) (ext_upx Wo) ?hTa (Ext.drew (Ext.refl _)) ?_
      case hTa =>
        intro i R hR
        match i, hR with
        | 5, hR => cases hR; exact fun _ _ _ h _ => h
      refine wpM_val ?ua0 rfl rfl Ext.refl (fun w' hD => ?ha0) ?na0
      case ha0 =>
        obtain ⟨d0, d1, d2, d3⟩ := FX.out w' hD.1
        go_simp; rfl
      simp only [Act.put, List.setIfInBounds_toArray, List.set_cons_succ, List.set_cons_zero, Nat.reduceAdd]
      refine wpM_val ?ua1 rfl rfl Ext.refl (fun w' hD => ?ha1) ?na1
      case ha1 =>
        obtain ⟨d0, d1, d2, d3⟩ := FX.out w' hD.1
        go_simp; rfl
      simp only [Act.put, List.setIfInBounds_toArray, List.set_cons_succ, List.set_cons_zero, Nat.reduceAdd]
      refine wpM_val ?ua2 rfl rfl Ext.refl (fun w' hD => ?ha2) ?na2
      case ha2 =>
        obtain ⟨d0, d1, d2, d3⟩ := FX.out w' hD.1
        go_simp; rfl
      simp only [Act.put, List.setIfInBounds_toArray, List.set_cons_succ, List.set_cons_zero, Nat.reduceAdd]
      refine wpM_val ?ua3 rfl rfl Ext.refl (fun w' hD => ?ha3) ?na3
      case ha3 =>
        obtain ⟨d0, d1, d2, d3⟩ := FX.out w' hD.1
        go_simp; rfl
      simp only [Act.put, List.setIfInBounds_toArray, List.set_cons_succ, List.set_cons_zero, Nat.reduceAdd]
      refine wpM_val ?ua4 rfl rfl Ext.refl (fun w' hD => ?ha4) ?na4
      case ha4 =>
        obtain ⟨d0, d1, d2, d3⟩ := FX.out w' hD.1
        go_simp; rfl
      simp only [Act.put, List.setIfInBounds_toArray, List.set_cons_succ, List.set_cons_zero, Nat.reduceAdd]
      refine wpM_op _ rfl rfl (opens_call ?fa5 ?ga5 (fun w' hD => ?ha5) (fun w' hD => ?ca5)) (fun v5 hv5 => ?na5)
      case ha5 => go_simp; constructor <;> rfl
      case ca5 =>
        refine (HCALL.out x w' (HMEMa.out x (mem_of_get hxk)) ((hx.trans (xo.trans hD.1)).kc)).mono ?_
        rintro e w2 ⟨rfl, hb⟩
        exact ⟨_, rfl, hb, rfl⟩
      obtain ⟨_, -, -, rfl⟩ := hv5
      simp only [Act.put, List.setIfInBounds_toArray, List.set_cons_succ, List.set_cons_zero, Nat.reduceAdd]
      refine wpM_nil ?_
      intro w9 hw9 hF9
      clear hF9 FX
      have x9 := xo.trans hw9
      have O9 := own_below O.out x9
      obtain ⟨t0, t1, t2⟩ := bcells_get _ k x HLK.out
      have d0 := (O9.cellAt (k * 3) (by omega)).trans t0
      have d1 := (O9.cellAt (k * 3 + 1) (by omega)).trans t1
      have d2 := (O9.cellAt (k * 3 + 2) (by omega)).trans t2
      have df := O9.frozenAt
      have df0 := df (k * 3)
      have df1 := df (k * 3 + 1)
      have df2 := df (k * 3 + 2)
      have hOS := own_set3 O9 HLK.out (f x)
      have HSET : Hid (((c.bs.take k).map f ++ c.bs.drop k).set k (f x) = (c.bs.take (k + 1)).map f ++ c.bs.drop (k + 1)) := set_map_drop f hxk
      have HOS := hid hOS
      have xw9 : Ext w w9 := hx.trans x9
      have hbs9 : BelS (fun i => i = g1) W3 w9 := hbs.trans (Ext.belS x9)
      have hgB : w.heap.size ≤ g1 := by have := (O9.lt g1 rfl).1; omega
      unfold Bd.val
      clear t0 t1 t2 df hOS O9 O hbs hx hxk hw9 xo x9
      try simp only [List.drop_succ_cons, List.drop_zero]
      go_wp2
      have hfin := HOS.out.1
      rw [HSET.out] at hfin
      have HF := hid hfin
      have hb10 := hbs9.trans HOS.out.2
      have xw10 : Ext w (((w9.setCell ⟨g1, k * 3, none⟩ (.int .i64 (f x).f)).setCell ⟨g1, k * 3 + 1, none⟩ (.int .i64 (f x).t)).setCell ⟨g1, k * 3 + 2, none⟩ (.int .i64 (f x).m)) := ((xw9.setCell hgB _).setCell hgB _).setCell hgB _
      clear hfin HOS HSET HLK d0 d1 d2 df0 df1 df2 hbs9 xw9
      go_wp2
      go_roundw
      case rel => exact ⟨k + 1, by go_num, by omega, HF, xw10, hb10⟩
      case measure => simp [intOf]; omega
    · have hlt' : ¬ (k : Int) < (c.bs.length : Int) := by omega
      have hbs1 := O.out
      rw [List.take_of_length_le (by omega), List.drop_eq_nil_of_le (by omega), List.append_nil] at hbs1
      have O1 := hid hbs1
      have gu := hbs.heap GU.out (by show ¬ Bu = g1; omega)
      have pB := block_cell (i := 3) gu
      simp only [List.getElem?_toArray, List.getElem?_cons_zero, List.getElem?_cons_succ] at pB
      have GU := hid gu
      have G0 := hid (hbs.heap G0.out (by show ¬ w.heap.size = g1; have := HB1.out; omega))
      have hne12 : g1 ≠ g2 := HNE12.out
      have O2 := hid (hbs.own O2.out (fun i e h => by have h2 : g2 = i := Option.some.inj e; have h3 : i = g1 := h; omega))
      have HCO := hid (HCO.out.belS hbs (fun g hg e => by have h1 := (List.nodup_cons.1 HND.out).1; have h2 : g = g1 := e; rw [h2] at hg; exact h1 hg))
      have xw := hx
      clear hbs1 hbs O hx gu
      obtain ⟨wo, rfl⟩ : ∃ wo : World, wo = wr := ⟨_, rfl⟩
      go_wp2
      go_loopw [32] (fun i wr => ∃ (k : Nat) (gd gr : List Nat) (xd xr : List Value), i = .int .i64 (k : Int) ∧ k ≤ c.cl.length ∧ Hid (gs = gd ++ gr ∧ xs = xd ++ xr ∧ xd.length = k * 2) ∧ Hid (ClO wr B gd xd ((c.cl.take k).map (mapCl f))) ∧ Hid (ClO wr B gr xr (c.cl.drop k)) ∧
          Hid (wr.ownsRow B 37 2 (.slice (some ⟨g2, 0, none⟩) c.cl.length m2) c.cl.length xs) ∧ Hid (wr.ownsRow B 35 3 (.slice (some ⟨g1, 0, none⟩) c.bs.length m1) c.bs.length (bcells (c.bs.map f))) ∧ Ext w wr ∧ BelS (fun i => i ∈ gs) wo wr) (fun i _ => c.cl.length - (intOf i).toNat)
      case atStart => exact ⟨0, [], gs, [], xs, rfl, Nat.zero_le _, ⟨rfl, rfl, rfl⟩, trivial, HCO, O2, O1, xw, BelS.refl _ _⟩
      case round =>
        obtain ⟨k, gd, gr, xd, xr, rfl, hk, HEQ, HCD, HCR, O2, O1, hxk, hbk⟩ := hrel
        by_cases hltk : k < c.cl.length
        · have hltk' : (k : Int) < (c.cl.length : Int) := by omega
          obtain ⟨y, hyk⟩ := get_of_lt c.cl k hltk
          have hdk : c.cl.drop k = y :: c.cl.drop (k + 1) := by rw [List.drop_eq_getElem_cons hltk, (List.getElem?_eq_some_iff.1 hyk).2]
          have htk : (c.cl.take (k + 1)).map (mapCl f) = (c.cl.take k).map (mapCl f) ++ [mapCl f y] := by rw [List.take_succ_eq_append_getElem hltk, (List.getElem?_eq_some_iff.1 hyk).2]; simp
          have hcr := HCR.out
          rw [hdk] at hcr
          obtain ⟨g, gr', q, ys, rfl, rfl, oy, hcr'⟩ := hcr.drop1
          have hmemy := mem_of_get hyk
          have HMEMb : Hid (∀ x ∈ y.bs, S x) := fun x hx => HSC.out x (all_mem.2 (.inr ⟨y, hmemy, hx⟩))
          have hl3 := HL3.out y hmemy
          have HTK := hid htk
          obtain ⟨eg1, ex1, elen⟩ := HEQ.out
          have c0 := O2.out.cellAt (k * 2) (by omega)
          have c1 := O2.out.cellAt (k * 2 + 1) (by omega)
          rw [ex1, List.getElem?_append_right (by omega), elen, show k * 2 - k * 2 = 0 by omega] at c0
          rw [ex1, List.getElem?_append_right (by omega), elen, show k * 2 + 1 - k * 2 = 1 by omega] at c1
          simp only [List.getElem?_cons_zero, List.getElem?_cons_succ] at c0 c1
          have hgin : g ∈ gs := by rw [eg1]; simp
          have hgbb := hgsb.out g hgin
          have hnd := HND.out
          have hg1g : g1 ≠ g := fun e => (List.nodup_cons.1 hnd).1 (e ▸ hgin)
          have hnd2 := (List.nodup_cons.1 hnd).2
          rw [eg1, List.nodup_append] at hnd2
          have HGD : Hid (∀ i ∈ gd, i ≠ g) := fun i hi e => hnd2.2.2 i hi g (by simp) e
          have HGR : Hid (∀ i ∈ gr', i ≠ g) := fun i hi e => by
            have := (List.nodup_cons.1 hnd2.2.1).1
            rw [e] at hi; exact this hi
          have HCR' := hid hcr'
          have OY := hid oy
          clear hdk htk hcr hyk eg1 ex1 hnd hnd2 HCR hcr' oy
          go_wp2
          have xo := Ext.alloc (Ext.refl wr) (.cells #[.int .i64 y.w, .slice (some ⟨g, 0, none⟩) y.bs.length q] 37)
          have GX := hid (heap_alloc_new wr (.cells #[.int .i64 y.w, .slice (some ⟨g, 0, none⟩) y.bs.length q] 37))
          generalize hWi : wr.alloc (.cells #[.int .i64 y.w, .slice (some ⟨g, 0, none⟩) y.bs.length q] 37) = Wi at xo GX ⊢
          clear hWi
          obtain ⟨Bx, hBx⟩ : ∃ Bx, wr.heap.size = Bx := ⟨_, rfl⟩
          have HBx := hid hBx
          rw [hBx] at GX
          have hgx : g < Bx := by have := (OY.out.lt g rfl).2; omega
          rw [hBx]
          clear hBx c0 c1
          have xb : Ext w Wi := hxk.trans xo
          have OYi := hid (own_below OY.out xo)
          obtain ⟨wp, rfl⟩ : ∃ wp : World, wp = wr := ⟨_, rfl⟩
          go_loopw [39] (fun i wr => ∃ j : Nat, i = .int .i64 (j : Int) ∧ j ≤ y.bs.length ∧ Hid (wr.ownsRow B 35 3 (.slice (some ⟨g, 0, none⟩) y.bs.length q) y.bs.length (bcells ((y.bs.take j).map f ++ y.bs.drop j))) ∧ Ext w wr ∧ BelS (fun i => i = g) Wi wr) (fun i _ => y.bs.length - (intOf i).toNat)
          case atStart => exact ⟨0, rfl, Nat.zero_le _, by unfold Hid; simpa using OYi.out, xb, BelS.refl _ _⟩
          case round =>
            obtain ⟨j, rfl, hj, O, hx, hbs⟩ := hrel
            by_cases hlt : j < y.bs.length
            · have hlt' : (j : Int) < (y.bs.length : Int) := by omega
              obtain ⟨x, hxk⟩ := get_of_lt y.bs j hlt
              have hLk : ((y.bs.take j).map f ++ y.bs.drop j)[j]? = some x := by
                rw [List.getElem?_append_right (by simp; omega)]; simp [Nat.min_eq_left hj, hxk]
              obtain ⟨e0, e1, e2⟩ := bcells_get _ j x hLk
              have hlen3 : j * 3 + 2 < y.bs.length * 3 := by omega
              have c0 := (O.out.cellAt (j * 3) (by omega)).trans e0
              have c1 := (O.out.cellAt (j * 3 + 1) (by omega)).trans e1
              have c2 := (O.out.cellAt (j * 3 + 2) (by omega)).trans e2
              have HLK := hid hLk
              have pB := block_cell (i := 1) (hbs.heap GX.out (by show ¬ Bx = g; omega))
              simp only [List.getElem?_toArray, List.getElem?_cons_zero, List.getElem?_cons_succ] at pB
              clear e0 e1 e2 hLk
              go_wp2
              have xo := Ext.alloc (Ext.refl wr) (.cells #[.int .i64 x.f, .int .i64 x.t, .int .i64 x.m] 35)
              have n0 : (wr.alloc (.cells #[.int .i64 x.f, .int .i64 x.t, .int .i64 x.m] 35)).cell? ⟨wr.heap.size, 0, none⟩ = some (.int .i64 x.f) := by simp [go_sem]
              have n1 : (wr.alloc (.cells #[.int .i64 x.f, .int .i64 x.t, .int .i64 x.m] 35)).cell? ⟨wr.heap.size, 1, none⟩ = some (.int .i64 x.t) := by simp [go_sem]
              have n2 : (wr.alloc (.cells #[.int .i64 x.f, .int .i64 x.t, .int .i64 x.m] 35)).cell? ⟨wr.heap.size, 2, none⟩ = some (.int .i64 x.m) := by simp [go_sem]
              generalize hWo : wr.alloc (.cells #[.int .i64 x.f, .int .i64 x.t, .int .i64 x.m] 35) = Wo at xo n0 n1 n2 ⊢
              clear hWo c0 c1 c2
              have FX0 : ∀ w', Ext Wo w' → w'.cell? ⟨Bx, 1, none⟩ = some (.slice (some ⟨g, 0, none⟩) y.bs.length q) ∧ w'.cell? ⟨wr.heap.size, 0, none⟩ = some (.int .i64 x.f) ∧ w'.cell? ⟨wr.heap.size, 1, none⟩ = some (.int .i64 x.t) ∧ w'.cell? ⟨wr.heap.size, 2, none⟩ = some (.int .i64 x.m) :=
                fun w' h => ⟨h.cell (xo.cell pB), h.cell n0, h.cell n1, h.cell n2⟩
              have FX := hid FX0
              clear FX0 pB n0 n1 n2
              refine wp_region_opens_tail Ext (fun w' => Ext Wo w') (fun | 5 => some (fun v _ => v = (f x).val) | _ => none) 6 (by kernel_rfl) (by kernel_rfl) (ext_upx Wo) ?hTb (Ext.drew (Ext.refl _)) ?_
              case hTb =>
                intro i R hR
                match i, hR with
                | 5, hR => cases hR; exact fun _ _ _ h _ => h
              refine wpM_val ?ub0 rfl rfl Ext.refl (fun w' hD => ?hb0) ?nb0
              case hb0 =>
                obtain ⟨d0, d1, d2, d3⟩ := FX.out w' hD.1
                go_simp; rfl
              simp only [Act.put, List.setIfInBounds_toArray, List.set_cons_succ, List.set_cons_zero, Nat.reduceAdd]
              refine wpM_val ?ub1 rfl rfl Ext.refl (fun w' hD => ?hb1) ?nb1
              case hb1 =>
                obtain ⟨d0, d1, d2, d3⟩ := FX.out w' hD.1
                go_simp; rfl
              simp only [Act.put, List.setIfInBounds_toArray, List.set_cons_succ, List.set_cons_zero, Nat.reduceAdd]
              refine wpM_val ?ub2 rfl rfl Ext.refl (fun w' hD => ?hb2) ?nb2
              case hb2 =>
                obtain ⟨d0, d1, d2, d3⟩ := FX.out w' hD.1
                go_simp; rfl
              simp only [Act.put, List.setIfInBounds_toArray, List.set_cons_succ, List.set_cons_zero, Nat.reduceAdd]
              refine wpM_val ?ub3 rfl rfl Ext.refl (fun w' hD => ?hb3) ?nb3
              case hb3 =>
                obtain ⟨d0, d1, d2, d3⟩ := FX.out w' hD.1
                go_simp; rfl
              simp only [Act.put, List.setIfInBounds_toArray, List.set_cons_succ, List.set_cons_zero, Nat.reduceAdd]
              refine wpM_val ?ub4 rfl rfl Ext.refl (fun w' hD => ?hb4) ?nb4
              case hb4 =>
                obtain ⟨d0, d1, d2, d3⟩ := FX.out w' hD.1
                go_simp; rfl
              simp only [Act.put, List.setIfInBounds_toArray, List.set_cons_succ, List.set_cons_zero, Nat.reduceAdd]
              refine wpM_op _ rfl rfl (opens_call ?fb5 ?gb5 (fun w' hD => ?hb5) (fun w' hD => ?cb5)) (fun v5 hv5 => ?nb5)
              case hb5 => go_simp; constructor <;> rfl
              case cb5 =>
                refine (HCALL.out x w' (HMEMb.out x (mem_of_get hxk)) ((hx.trans (xo.trans hD.1)).kc)).mono ?_
                rintro e w2 ⟨rfl, hb⟩
                exact ⟨_, rfl, hb, rfl⟩
              obtain ⟨_, -, -, rfl⟩ := hv5
              simp only [Act.put, List.setIfInBounds_toArray, List.set_cons_succ, List.set_cons_zero, Nat.reduceAdd]
              refine wpM_nil ?_
              intro w9 hw9 hF9
              clear hF9 FX
              have x9 := xo.trans hw9
              have O9 := own_below O.out x9
              obtain ⟨t0, t1, t2⟩ := bcells_get _ j x HLK.out
              have d0 := (O9.cellAt (j * 3) (by omega)).trans t0
              have d1 := (O9.cellAt (j * 3 + 1) (by omega)).trans t1
              have d2 := (O9.cellAt (j * 3 + 2) (by omega)).trans t2
              have df := O9.frozenAt
              have df0 := df (j * 3)
              have df1 := df (j * 3 + 1)
              have df2 := df (j * 3 + 2)
              have hOS := own_set3 O9 HLK.out (f x)
              have HSET : Hid (((y.bs.take j).map f ++ y.bs.drop j).set j (f x) = (y.bs.take (j + 1)).map f ++ y.bs.drop (j + 1)) := set_map_drop f hxk
              have HOS := hid hOS
              have xw9 : Ext w w9 := hx.trans x9
              have hbs9 : BelS (fun i => i = g) Wi w9 := hbs.trans (Ext.belS x9)
              have hgB : w.heap.size ≤ g := by have := (O9.lt g rfl).1; omega
              unfold Bd.val
              clear t0 t1 t2 df hOS O9 O hbs hx hxk hw9 xo x9
              try simp only [List.drop_succ_cons, List.drop_zero]
              go_wp2
              have hfin := HOS.out.1
              rw [HSET.out] at hfin
              have HF := hid hfin
              have hb10 := hbs9.trans HOS.out.2
              have xw10 : Ext w (((w9.setCell ⟨g, j * 3, none⟩ (.int .i64 (f x).f)).setCell ⟨g, j * 3 + 1, none⟩ (.int .i64 (f x).t)).setCell ⟨g, j * 3 + 2, none⟩ (.int .i64 (f x).m)) := ((xw9.setCell hgB _).setCell hgB _).setCell hgB _
              clear hfin HOS HSET HLK d0 d1 d2 df0 df1 df2 hbs9 xw9
              go_wp2
              go_roundw
              case rel => exact ⟨j + 1, by go_num, by omega, HF, xw10, hb10⟩
              case measure => simp [intOf]; omega
            · have hlt' : ¬ (j : Int) < (y.bs.length : Int) := by omega
              have hyo := O.out
              rw [List.take_of_length_le (by omega), List.drop_eq_nil_of_le (by omega), List.append_nil] at hyo
              have hly : (mapCl f y).bs.length = y.bs.length := by simp [mapCl]
              have N2 := hid (hbs.own (own_below O2.out xo) (fun i e h => by have h2 : g2 = i := Option.some.inj e; have h3 : i = g := h; exact ty_ne (own_ty (own_below OY.out xo)) (own_ty (own_below O2.out xo)) (by decide) (h3.symm.trans h2.symm)))
              have N1 := hid (hbs.own (own_below O1.out xo) (fun i e h => by have h2 : g1 = i := Option.some.inj e; have h3 : i = g := h; exact hg1g (h2.trans h3)))
              have NCD : Hid (ClO wr B (gd ++ [g]) (xd ++ [.int .i64 y.w, .slice (some ⟨g, 0, none⟩) y.bs.length q]) ((c.cl.take (k + 1)).map (mapCl f))) := by
                unfold Hid
                rw [HTK.out]
                refine ClO.app (gs' := [g]) (m := [mapCl f y]) ((HCD.out.ext xo).belS hbs (fun i hi e => HGD.out i hi e)) ⟨rfl, ⟨q, by rw [hly], ?_⟩, trivial⟩
                rw [hly]
                exact hyo
              have NCR := hid ((HCR'.out.ext xo).belS hbs (fun i hi e => HGR.out i hi e))
              have NEQ : Hid (gs = (gd ++ [g]) ++ gr' ∧ xs = (xd ++ [.int .i64 y.w, .slice (some ⟨g, 0, none⟩) y.bs.length q]) ++ ys ∧ (xd ++ [Value.int .i64 y.w, Value.slice (some ⟨g, 0, none⟩) y.bs.length q]).length = (k + 1) * 2) := by
                obtain ⟨e1, e2, e3⟩ := HEQ.out
                exact ⟨by rw [e1]; simp, by rw [e2]; simp, by simp [e3]; omega⟩
              have nbk : BelS (fun i => i ∈ gs) wo wr := hbk.trans ((Ext.belS xo).trans (hbs.mono fun i _ e => by have h2 : i = g := e; rw [h2]; exact hgin))
              clear hyo hbs O hbk HCD HCR' HEQ HTK O1 O2 xo OYi OY xb hxk hly
              go_wp2
              go_roundw
              case rel => exact ⟨k + 1, gd ++ [g], gr', xd ++ [.int .i64 y.w, .slice (some ⟨g, 0, none⟩) y.bs.length q], ys, by go_num, by omega, NEQ, NCD, NCR, N2, N1, hx, nbk⟩
              case measure => simp [intOf]; omega
        · have hltk' : ¬ (k : Int) < (c.cl.length : Int) := by omega
          have hcr := HCR.out
          rw [List.drop_eq_nil_of_le (by omega)] at hcr
          obtain ⟨hgr, hxr⟩ := hcr.nil_
          have hcd := HCD.out
          rw [List.take_of_length_le (by omega)] at hcd
          obtain ⟨eg1, ex1, elen⟩ := HEQ.out
          rw [hxr, List.append_nil] at ex1
          rw [← ex1] at hcd
          have gu := hbk.heap GU.out (fun e => by have := hgsb.out Bu e; omega)
          have g0 := hbk.heap G0.out (fun e => by have := hgsb.out _ e; omega)
          have p0 := block_cell (i := 0) gu
          have p1 := block_cell (i := 1) gu
          have p2 := block_cell (i := 2) gu
          have p3 := block_cell (i := 3) gu
          have r0 := block_cell (i := 0) g0
          have r1 := block_cell (i := 1) g0
          have r2 := block_cell (i := 2) g0
          have r3 := block_cell (i := 3) g0
          have rf := fun i => block_free (i := i) g0
          simp only [List.getElem?_toArray, List.getElem?_cons_zero, List.getElem?_cons_succ] at p0 p1 p2 p3 r0 r1 r2 r3
          have HCDF := hid hcd
          have hne : ¬ Bu = w.heap.size := by have := HB1.out; omega
          have hne2 : ¬ w.heap.size = Bu := fun e => hne e.symm
          have hg1w : w.heap.size < g1 := by have := hg1.1; omega
          have hg2w : w.heap.size < g2 := by have := hg2.1; omega
          clear hcr hcd eg1 ex1 elen hgr hxr HCR HCD HEQ gu g0
          go_wp2
          have xg : BelS (fun i => i = w.heap.size) wr ((((wr.setCell ⟨w.heap.size, 0, none⟩ (.int .i64 c.ev)).setCell ⟨w.heap.size, 1, none⟩ (.slice (some ⟨g1, 0, none⟩) c.bs.length m1)).setCell ⟨w.heap.size, 2, none⟩ (.int .i64 c.wi)).setCell ⟨w.heap.size, 3, none⟩ (.slice (some ⟨g2, 0, none⟩) c.cl.length m2)) :=
            ((((BelS.refl _ wr).setCell (S := fun i => i = w.heap.size) ⟨w.heap.size, 0, none⟩ _ rfl).setCell ⟨w.heap.size, 1, none⟩ _ rfl).setCell ⟨w.heap.size, 2, none⟩ _ rfl).setCell ⟨w.heap.size, 3, none⟩ _ rfl
          have xf : Ext w ((((wr.setCell ⟨w.heap.size, 0, none⟩ (.int .i64 c.ev)).setCell ⟨w.heap.size, 1, none⟩ (.slice (some ⟨g1, 0, none⟩) c.bs.length m1)).setCell ⟨w.heap.size, 2, none⟩ (.int .i64 c.wi)).setCell ⟨w.heap.size, 3, none⟩ (.slice (some ⟨g2, 0, none⟩) c.cl.length m2)) :=
            (((hxk.setCell (Nat.le_refl _) _).setCell (Nat.le_refl _) _).setCell (Nat.le_refl _) _).setCell (Nat.le_refl _) _
          have hv : (Value.agg #[.int .i64 c.ev, .slice (some ⟨g1, 0, none⟩) c.bs.length m1, .int .i64 c.wi, .slice (some ⟨g2, 0, none⟩) c.cl.length m2]) = .agg #[.int .i64 (c.map f).ev, .slice (some ⟨g1, 0, none⟩) (c.map f).bs.length m1, .int .i64 (c.map f).wi, .slice (some ⟨g2, 0, none⟩) (c.map f).cl.length m2] := by simp [Cs.map]
          have f1 := xg.own O1.out (fun i e h => by have h2 : g1 = i := Option.some.inj e; have h3 : i = w.heap.size := h; omega)
          have f2 := xg.own O2.out (fun i e h => by have h2 : g2 = i := Option.some.inj e; have h3 : i = w.heap.size := h; omega)
          have f3 := HCDF.out.belS xg (fun i hi e => by have h3 : i = w.heap.size := e; have := (HCDF.out.lt i hi).1; omega)
          refine bodyPost_ret (v := .agg #[.int .i64 c.ev, .slice (some ⟨g1, 0, none⟩) c.bs.length m1, .int .i64 c.wi, .slice (some ⟨g2, 0, none⟩) c.cl.length m2]) ?res rfl
            ⟨_, rfl, ⟨_, m1, _, m2, hv, Rd.of_own f1, xs, Rd.of_own f2, f3.toC⟩, xf⟩
          case res => simp [results, Try.results16, go_sem, r0, r1, r2, r3]
end Go.Proofs.Ytgnjhaomlbkgcaa

namespace Go.Proofs.Ytgnjhaomlbkgcaa
open Go Go.RowKit Go.Shelf
set_option linter.unusedVariables false
set_option linter.unusedSimpArgs false

/-- A case whose rows are new. -/
def FreshCs (w : World) (B : Nat) (v : Value) (c : Cs) : Prop :=
  ∃ A1 c1 A2 c2 xs, v = .agg #[.int .i64 c.ev, .slice A1 c.bs.length c1, .int .i64 c.wi, .slice A2 c.cl.length c2] ∧ w.ownsRow B 35 3 (.slice A1 c.bs.length c1) c.bs.length (bcells c.bs) ∧
    w.ownsRow B 37 2 (.slice A2 c.cl.length c2) c.cl.length xs ∧ ClW w B xs c.cl
theorem FreshCs.toR {w : World} {B : Nat} {v : Value} {c : Cs} (h : FreshCs w B v c) : CsR w v c := by
  obtain ⟨A1, c1, A2, c2, xs, rfl, h1, h2, h3⟩ := h
  exact ⟨A1, c1, A2, c2, rfl, Rd.of_own h1, xs, Rd.of_own h2, h3.toC⟩
def zeroCs : Value := .agg #[.int .i64 0, .slice none 0 0, .int .i64 0, .slice none 0 0]
def ToldPost (w : World) (c : Cs) (b : Bd) (e : Ending) (w' : World) : Prop :=
  ∃ r, e = .returned (.tuple #[r, .int .i64 (toldBC c b)]) ∧ Ext w w' ∧ (toldBC c b ≠ 0 → r = zeroCs) ∧ (toldBC c b = 0 → FreshCs w' w.heap.size r (c.add b))

theorem wpList_make_some {P : Program} (w : World) {ops : Array Oper} {rest : List Oper} {o : Oper} {a : Act} {Q : Exit → Act → World → Prop}
    (hg : o.guard = none) (l c : Operand) (t : TypeId) (hop : o.op = Op.makeSlice t l c)
    (base : Nat) (e : TypeId) (i : TypeInfo) (z : Value) (size : Nat) (h1 : P.underlying t = some (.slice e)) (h2 : P.info? e = some i) (h3 : i.zero = some z) (h4 : i.size = size)
    (kl kc : IntKind) (L C : Int) (n : Nat) (hl : a.eval l = .int kl L) (hc : a.eval c = .int kc C) (hL : L = (n : Int)) (hC : C = (n : Int)) (b2 : i.bytes * n ≤ 281474976710656) (b3 : n ≤ maxLen) (b4 : base ≤ w.heap.size)
    (hK : ∀ w' xs, w'.ownsRow base e size (.slice (some ⟨w.heap.size, 0, none⟩) n n) n xs → w.grownBy w' none → wpList P ops Q rest (a.put o.dst (.slice (some ⟨w.heap.size, 0, none⟩) n n)) w') :
    wpList P ops Q (o :: rest) a w :=
  wpList_make_full w hg l c t hop base e i z size h1 h2 h3 h4 kl kc L C n hl hc hL hC b2 b3 b4 fun w' h1 h2 => hK w' _ h1 h2
theorem manyOK_len {c : Cs} (h : manyOK c = true) : c.bs.length ≤ 20 ∧ c.cl.length ≤ 8 ∧ ∀ x ∈ c.cl, x.bs.length ≤ 4 := by
  unfold manyOK eachOK at h
  simp only [Bool.and_eq_true, List.all_eq_true, decide_eq_true_eq] at h
  exact ⟨h.1.1.1.2, h.1.2, fun x hx => h.2 x hx⟩
set_option maxRecDepth 100000 in
set_option maxHeartbeats 4000000 in
theorem toldb_any (v : Value) (c : Cs) (b : Bd) (w : World) (hc : CsR w v c) (hs : c.sized) :
    Calls Try.prog 50 #[v, b.val] w (ToldPost w c b) := by
  have hc' := hc
  obtain ⟨A1, c1, A2, c2, rfl, hB, hC⟩ := hc
  obtain ⟨f, t, m⟩ := b
  obtain ⟨T, hT⟩ : ∃ T, toldBC c ⟨f, t, m⟩ = T := ⟨_, rfl⟩
  have HT := hid hT
  unfold toldBC at hT
  have HT2 := hid hT
  clear hT
  show Calls _ _ #[_, .agg #[.int .i64 f, .int .i64 t, .int .i64 m]] w _
  go_enter Try.func50, Try.ntmps50
  go_wp2_with fail
  have x0 := Ext.alloc (Ext.alloc (Ext.alloc (Ext.refl w) (.cells #[.int .i64 c.ev, .slice A1 c.bs.length c1, .int .i64 c.wi, .slice A2 c.cl.length c2] 26)) (.cells #[.int .i64 f, .int .i64 t, .int .i64 m] 35)) (.cells #[.int .i64 0, .slice none 0 0, .int .i64 0, .slice none 0 0] 26)
  have hz0 : (((w.alloc (.cells #[.int .i64 c.ev, .slice A1 c.bs.length c1, .int .i64 c.wi, .slice A2 c.cl.length c2] 26)).alloc (.cells #[.int .i64 f, .int .i64 t, .int .i64 m] 35)).alloc (.cells #[.int .i64 0, .slice none 0 0, .int .i64 0, .slice none 0 0] 26)).heap.size = w.heap.size + 3 := by simp
  have GC : (((w.alloc (.cells #[.int .i64 c.ev, .slice A1 c.bs.length c1, .int .i64 c.wi, .slice A2 c.cl.length c2] 26)).alloc (.cells #[.int .i64 f, .int .i64 t, .int .i64 m] 35)).alloc (.cells #[.int .i64 0, .slice none 0 0, .int .i64 0, .slice none 0 0] 26)).heap[w.heap.size]? = some (.cells #[.int .i64 c.ev, .slice A1 c.bs.length c1, .int .i64 c.wi, .slice A2 c.cl.length c2] 26 (0, 0)) := (Below.block (Ext.alloc (Ext.alloc (Ext.refl (w.alloc (.cells #[.int .i64 c.ev, .slice A1 c.bs.length c1, .int .i64 c.wi, .slice A2 c.cl.length c2] 26))) (.cells #[.int .i64 f, .int .i64 t, .int .i64 m] 35)) (.cells #[.int .i64 0, .slice none 0 0, .int .i64 0, .slice none 0 0] 26)) w.heap.size (by simp)).trans (heap_alloc_new w _)
  have GB : (((w.alloc (.cells #[.int .i64 c.ev, .slice A1 c.bs.length c1, .int .i64 c.wi, .slice A2 c.cl.length c2] 26)).alloc (.cells #[.int .i64 f, .int .i64 t, .int .i64 m] 35)).alloc (.cells #[.int .i64 0, .slice none 0 0, .int .i64 0, .slice none 0 0] 26)).heap[w.heap.size + 1]? = some (.cells #[.int .i64 f, .int .i64 t, .int .i64 m] 35 (0, 0)) := by
    have h := heap_alloc_new (w.alloc (.cells #[.int .i64 c.ev, .slice A1 c.bs.length c1, .int .i64 c.wi, .slice A2 c.cl.length c2] 26)) (.cells #[.int .i64 f, .int .i64 t, .int .i64 m] 35)
    rw [show (w.alloc (.cells #[.int .i64 c.ev, .slice A1 c.bs.length c1, .int .i64 c.wi, .slice A2 c.cl.length c2] 26)).heap.size = w.heap.size + 1 by simp] at h
    exact (Below.block (Ext.alloc (Ext.refl ((w.alloc (.cells #[.int .i64 c.ev, .slice A1 c.bs.length c1, .int .i64 c.wi, .slice A2 c.cl.length c2] 26)).alloc (.cells #[.int .i64 f, .int .i64 t, .int .i64 m] 35))) (.cells #[.int .i64 0, .slice none 0 0, .int .i64 0, .slice none 0 0] 26)) (w.heap.size + 1) (by simp)).trans h
  have GZ : (((w.alloc (.cells #[.int .i64 c.ev, .slice A1 c.bs.length c1, .int .i64 c.wi, .slice A2 c.cl.length c2] 26)).alloc (.cells #[.int .i64 f, .int .i64 t, .int .i64 m] 35)).alloc (.cells #[.int .i64 0, .slice none 0 0, .int .i64 0, .slice none 0 0] 26)).heap[w.heap.size + 1 + 1]? = some (.cells #[.int .i64 0, .slice none 0 0, .int .i64 0, .slice none 0 0] 26 (0, 0)) := by
    have h := heap_alloc_new ((w.alloc (.cells #[.int .i64 c.ev, .slice A1 c.bs.length c1, .int .i64 c.wi, .slice A2 c.cl.length c2] 26)).alloc (.cells #[.int .i64 f, .int .i64 t, .int .i64 m] 35)) (.cells #[.int .i64 0, .slice none 0 0, .int .i64 0, .slice none 0 0] 26)
    rwa [show ((w.alloc (.cells #[.int .i64 c.ev, .slice A1 c.bs.length c1, .int .i64 c.wi, .slice A2 c.cl.length c2] 26)).alloc (.cells #[.int .i64 f, .int .i64 t, .int .i64 m] 35)).heap.size = w.heap.size + 1 + 1 by simp] at h
  generalize hW0 : (((w.alloc (.cells #[.int .i64 c.ev, .slice A1 c.bs.length c1, .int .i64 c.wi, .slice A2 c.cl.length c2] 26)).alloc (.cells #[.int .i64 f, .int .i64 t, .int .i64 m] 35)).alloc (.cells #[.int .i64 0, .slice none 0 0, .int .i64 0, .slice none 0 0] 26)) = W0 at x0 hz0 GC GB GZ ⊢
  clear hW0
  refine (check_any _ c _ (hc'.ext x0) hs).mono ?_
  rintro e w1 ⟨rfl, hx1⟩
  have GC1 := (Below.block hx1 _ (by omega)).trans GC
  have GB1 := (Below.block hx1 _ (by omega)).trans GB
  have GZ1 := (Below.block hx1 _ (by omega)).trans GZ
  have X1 := x0.trans hx1
  have hz1 := hx1.size
  clear GC GB GZ x0 hx1
  obtain ⟨K, hK⟩ : ∃ K, checkC c = K := ⟨_, rfl⟩
  have HK := hid hK
  rw [hK]
  rw [hK] at HT2
  clear hK
  by_cases k0 : K ≠ 0
  · have HTK : Hid (T = K) := by
      have h := HT2.out
      rw [if_pos k0] at h
      exact h.symm
    have HTN : Hid (T ≠ 0) := by unfold Hid; rw [HTK.out]; exact k0
    have z0 := block_cell (i := 0) GZ1
    have z1 := block_cell (i := 1) GZ1
    have z2 := block_cell (i := 2) GZ1
    have z3 := block_cell (i := 3) GZ1
    have f0 := block_free (i := 0) GZ1
    have f1 := block_free (i := 1) GZ1
    have f2 := block_free (i := 2) GZ1
    have f3 := block_free (i := 3) GZ1
    simp only [List.getElem?_toArray, List.getElem?_cons_zero, List.getElem?_cons_succ] at z0 z1 z2 z3
    clear GC1 GB1 GZ1
    go_wp2
    refine bodyPost_ret (v := .tuple #[zeroCs, .int .i64 T]) ?_ rfl ⟨zeroCs, by rw [HT.out], (((X1.setCell (by simp; omega) _).setCell (by simp; omega) _).setCell (by simp; omega) _).setCell (by simp; omega) _, fun _ => rfl, fun h => absurd (HT.out.symm.trans h) HTN.out⟩
    rw [results_cell_tmp rfl]
    simp only [HTK.out]
    go_simp
    rfl
  have h2 := HT2.out
  rw [if_neg k0] at h2
  clear HT2
  have HT2 := hid h2
  have e0 : K = 0 := by simpa using k0
  have hck := HK.out.trans e0
  obtain ⟨ev1, ev8⟩ := checkC_ev hck
  subst e0
  clear h2 k0
  have c0 := block_cell (i := 0) GC1
  have c1' := block_cell (i := 1) GC1
  have c2' := block_cell (i := 2) GC1
  have c3 := block_cell (i := 3) GC1
  have b0 := block_cell (i := 0) GB1
  have b1 := block_cell (i := 1) GB1
  have b2 := block_cell (i := 2) GB1
  simp only [List.getElem?_toArray, List.getElem?_cons_zero, List.getElem?_cons_succ] at c0 c1' c2' c3 b0 b1 b2
  go_wp2_with fail
  have xo := Ext.alloc (Ext.refl w1) (.cells #[.int .i64 f, .int .i64 t, .int .i64 m] 35)
  have n0 := heap_alloc_new w1 (.cells #[.int .i64 f, .int .i64 t, .int .i64 m] 35)
  have hBo : Bounds (w1.alloc (.cells #[.int .i64 f, .int .i64 t, .int .i64 m] 35)) (some ⟨w1.heap.size, 0, none⟩) [⟨f, t, m⟩] := rd_block n0
  refine (bounds_any _ c _ _ [⟨f, t, m⟩] _ (hc'.ext (X1.trans xo)) ev1 ev8 hBo (by simp)).mono ?_
  rintro e w2 ⟨rfl, hx2⟩
  have x12 := xo.trans hx2
  have GC2 := (Below.block x12 _ (by omega)).trans GC1
  have GB2 := (Below.block x12 _ (by omega)).trans GB1
  have GZ2 := (Below.block x12 _ (by omega)).trans GZ1
  have X2 := X1.trans x12
  have hz2 := x12.size
  clear GC1 GB1 GZ1 X1 x12 hx2 hBo n0 xo c0 c1' c2' c3 b0 b1 b2
  obtain ⟨K, hK⟩ : ∃ K, bdsC c.ev [⟨f, t, m⟩] = K := ⟨_, rfl⟩
  have HK2 := hid hK
  rw [hK]
  rw [hK] at HT2
  clear hK
  by_cases k0 : K ≠ 0
  · have HTK : Hid (T = K) := by
      have h := HT2.out
      rw [if_pos k0] at h
      exact h.symm
    have HTN : Hid (T ≠ 0) := by unfold Hid; rw [HTK.out]; exact k0
    have z0 := block_cell (i := 0) GZ2
    have z1 := block_cell (i := 1) GZ2
    have z2 := block_cell (i := 2) GZ2
    have z3 := block_cell (i := 3) GZ2
    have f0 := block_free (i := 0) GZ2
    have f1 := block_free (i := 1) GZ2
    have f2 := block_free (i := 2) GZ2
    have f3 := block_free (i := 3) GZ2
    simp only [List.getElem?_toArray, List.getElem?_cons_zero, List.getElem?_cons_succ] at z0 z1 z2 z3
    clear GC2 GB2 GZ2
    go_wp2
    refine bodyPost_ret (v := .tuple #[zeroCs, .int .i64 T]) ?_ rfl ⟨zeroCs, by rw [HT.out], (((X2.setCell (by simp; omega) _).setCell (by simp; omega) _).setCell (by simp; omega) _).setCell (by simp; omega) _, fun _ => rfl, fun h => absurd (HT.out.symm.trans h) HTN.out⟩
    rw [results_cell_tmp rfl]
    simp only [HTK.out]
    go_simp
    rfl
  have h2 := HT2.out
  rw [if_neg k0] at h2
  clear HT2
  have HT2 := hid h2
  have e0 : K = 0 := by simpa using k0
  subst e0
  clear h2 k0
  have b0 := block_cell (i := 0) GB2
  have b1 := block_cell (i := 1) GB2
  have b2 := block_cell (i := 2) GB2
  simp only [List.getElem?_toArray, List.getElem?_cons_zero, List.getElem?_cons_succ] at b0 b1 b2
  by_cases k0 : f = t
  · have HTK : Hid (T = 5) := by
      have h := HT2.out
      rw [if_pos k0] at h
      exact h.symm
    have HTN : Hid (T ≠ 0) := by unfold Hid; rw [HTK.out]; decide
    have z0 := block_cell (i := 0) GZ2
    have z1 := block_cell (i := 1) GZ2
    have z2 := block_cell (i := 2) GZ2
    have z3 := block_cell (i := 3) GZ2
    have f0 := block_free (i := 0) GZ2
    have f1 := block_free (i := 1) GZ2
    have f2 := block_free (i := 2) GZ2
    have f3 := block_free (i := 3) GZ2
    simp only [List.getElem?_toArray, List.getElem?_cons_zero, List.getElem?_cons_succ] at z0 z1 z2 z3
    clear GC2 GB2 GZ2
    go_wp2
    refine bodyPost_ret (v := .tuple #[zeroCs, .int .i64 T]) ?_ rfl ⟨zeroCs, by rw [HT.out], (((X2.setCell (by simp; omega) _).setCell (by simp; omega) _).setCell (by simp; omega) _).setCell (by simp; omega) _, fun _ => rfl, fun h => absurd (HT.out.symm.trans h) HTN.out⟩
    rw [results_cell_tmp rfl]
    simp only [HTK.out]
    go_simp
    rfl
  have h2 := HT2.out
  rw [if_neg k0] at h2
  clear HT2
  have HT2 := hid h2
  clear h2
  have c0 := block_cell (i := 0) GC2
  have c1' := block_cell (i := 1) GC2
  have c2' := block_cell (i := 2) GC2
  have c3 := block_cell (i := 3) GC2
  simp only [List.getElem?_toArray, List.getElem?_cons_zero, List.getElem?_cons_succ] at c0 c1' c2' c3
  by_cases k1 : c.bs.length = 20
  · have HTK : Hid (T = 2) := by
      have h := HT2.out
      rw [if_pos k1] at h
      exact h.symm
    have HTN : Hid (T ≠ 0) := by unfold Hid; rw [HTK.out]; decide
    have k1' : (c.bs.length : Int) = 20 := by omega
    have z0 := block_cell (i := 0) GZ2
    have z1 := block_cell (i := 1) GZ2
    have z2 := block_cell (i := 2) GZ2
    have z3 := block_cell (i := 3) GZ2
    have f0 := block_free (i := 0) GZ2
    have f1 := block_free (i := 1) GZ2
    have f2 := block_free (i := 2) GZ2
    have f3 := block_free (i := 3) GZ2
    simp only [List.getElem?_toArray, List.getElem?_cons_zero, List.getElem?_cons_succ] at z0 z1 z2 z3
    clear GC2 GB2 GZ2
    go_wp2
    refine bodyPost_ret (v := .tuple #[zeroCs, .int .i64 T]) ?_ rfl ⟨zeroCs, by rw [HT.out], (((X2.setCell (by simp; omega) _).setCell (by simp; omega) _).setCell (by simp; omega) _).setCell (by simp; omega) _, fun _ => rfl, fun h => absurd (HT.out.symm.trans h) HTN.out⟩
    rw [results_cell_tmp rfl]
    simp only [HTK.out]
    go_simp
    rfl
  have h2 := HT2.out
  rw [if_neg k1] at h2
  have HTK : Hid (T = 0) := h2.symm
  clear h2 HT2
  have k1' : ¬ (c.bs.length : Int) = 20 := by omega
  obtain ⟨l1, l2, l3⟩ := manyOK_len (checkC_ok hck).1
  obtain ⟨_, ⟨i, z, hi, hz, hsize, hby, hzs⟩, _, _⟩ := elem_bound
  have hb2 : i.bytes * (c.bs.length + 1) ≤ 281474976710656 := by rw [hby]; omega
  have hm1 : c.bs.length + 1 ≤ maxLen := by simp only [maxLen]; omega
  have hLn : ((c.bs.length : Int) + 1) = ((c.bs.length + 1 : Nat) : Int) := by omega
  have H2 := hid hm1
  have H3 := hid hb2
  have H4 := hid hi
  have H5 := hid hz
  have H6 := hid hsize
  have H7 := hid hLn
  have HL3 := hid l3
  have HKQ := hid k1
  have hx2s := X2.size
  clear hb2 hm1 hi hz hsize hby hzs hLn l3
  go_wp2_with (at_make; refine wpList_make_some _ rfl _ _ 23 rfl w.heap.size 35 i z 3 Try.underlying23 H4.out H5.out H6.out .i64 .i64 _ _ (c.bs.length + 1) rfl rfl H7.out H7.out H3.out H2.out hx2s ?_)
  intro w3 xs hown3 hgr3
  have x3 : Ext w2 w3 := Ext.grown (Ext.refl w2) hgr3 (fun k e => by cases e)
  have GC3 := (Below.block x3 _ (by omega)).trans GC2
  have GB3 := (Below.block x3 _ (by omega)).trans GB2
  have GZ3 := (Below.block x3 _ (by omega)).trans GZ2
  have X3 := X2.trans x3
  have hz3 := x3.size
  have O3 := hid hown3
  obtain ⟨g, hg⟩ : ∃ g, w2.heap.size = g := ⟨_, rfl⟩
  rw [hg] at O3 ⊢
  have HG := hid hg
  clear GC2 GB2 GZ2 X2 x3 hg hgr3 hown3 c0 c1' c2' c3 b0 b1 b2
  have c0 := block_cell (i := 0) GC3
  have c1' := block_cell (i := 1) GC3
  have c2' := block_cell (i := 2) GC3
  have c3 := block_cell (i := 3) GC3
  simp only [List.getElem?_toArray, List.getElem?_cons_zero, List.getElem?_cons_succ] at c0 c1' c2' c3
  have hg3 := (O3.out.lt g rfl).2
  have hgn : w.heap.size + 3 ≤ g := by have := HG.out; omega
  have hsz3 : (Try.prog.info? 35).map (·.size) = some 3 := by rw [H4.out]; simp [H6.out]
  have HS3 := hid hsz3
  have hBa := hB.ext X3
  have hm1 : c.bs.length ≤ c.bs.length + 1 := Nat.le_succ _
  have HM1 := hid hm1
  clear hsz3 hm1
  go_wp2_with (refine wpList_copy_into _ rfl _ _ 23 23 rfl 35 35 3 Try.underlying23 HS3.out rfl O3.out A1 c.bs.length c1 (bcells c.bs) rfl HM1.out (bcells_len _) hBa (bcells_one _) (by decide) ?_)
  intro w4 hown4 hb4
  have GC4 := hb4.heap GC3 (by show ¬ w.heap.size = g; omega)
  have GB4 := hb4.heap GB3 (by show ¬ w.heap.size + 1 = g; omega)
  have GZ4 := hb4.heap GZ3 (by show ¬ w.heap.size + 1 + 1 = g; omega)
  have X4 := Ext.then_bel X3 (show w.heap.size ≤ g by omega) (hb4.bel fun _ _ h => h)
  have hg4 := hb4.size
  have hdl : (xs.drop (c.bs.length * 3)).length = 3 := by
    have := O3.out.1
    rw [List.length_drop]; omega
  obtain ⟨u0, u1, u2, hu⟩ : ∃ u0 u1 u2, xs.drop (c.bs.length * 3) = [u0, u1, u2] := by
    match hq : xs.drop (c.bs.length * 3), hdl with
    | [u0, u1, u2], _ => exact ⟨u0, u1, u2, rfl⟩
  rw [hu] at hown4
  have O4 := hid hown4
  have hf := hown4.frozenAt
  have fg0 := hf (c.bs.length * 3)
  have fg1 := hf (c.bs.length * 3 + 1)
  have fg2 := hf (c.bs.length * 3 + 2)
  have g0 := hown4.cellAt (c.bs.length * 3) (by omega)
  have g1 := hown4.cellAt (c.bs.length * 3 + 1) (by omega)
  have g2 := hown4.cellAt (c.bs.length * 3 + 2) (by omega)
  rw [List.getElem?_append_right (by rw [bcells_len]; omega), bcells_len, Nat.sub_self] at g0
  rw [List.getElem?_append_right (by rw [bcells_len]; omega), bcells_len, show c.bs.length * 3 + 1 - c.bs.length * 3 = 1 by omega] at g1
  rw [List.getElem?_append_right (by rw [bcells_len]; omega), bcells_len, show c.bs.length * 3 + 2 - c.bs.length * 3 = 2 by omega] at g2
  simp only [List.getElem?_cons_zero, List.getElem?_cons_succ] at g0 g1 g2
  clear GC3 GB3 GZ3 X3 hb4 hown4 hf c0 c1' c2' c3 hBa hu hdl O3
  have c0 := block_cell (i := 0) GC4
  have c1' := block_cell (i := 1) GC4
  have c2' := block_cell (i := 2) GC4
  have c3 := block_cell (i := 3) GC4
  have b0 := block_cell (i := 0) GB4
  have b1 := block_cell (i := 1) GB4
  have b2 := block_cell (i := 2) GB4
  have fc1 := block_free (i := 1) GC4
  have fc3 := block_free (i := 3) GC4
  simp only [List.getElem?_toArray, List.getElem?_cons_zero, List.getElem?_cons_succ] at c0 c1' c2' c3 b0 b1 b2
  have ne1 : w.heap.size ≠ g := by omega
  have ne2 : w.heap.size + 1 ≠ g := by omega
  have ne3 : w.heap.size + 1 + 1 ≠ g := by omega
  go_wp2_with fail
  have OS : (((w4.setCell ⟨g, c.bs.length * 3, none⟩ (.int .i64 f)).setCell ⟨g, c.bs.length * 3 + 1, none⟩ (.int .i64 t)).setCell ⟨g, c.bs.length * 3 + 2, none⟩ (.int .i64 m)).ownsRow w.heap.size 35 3 (.slice (some ⟨g, 0, none⟩) (c.bs.length + 1) (c.bs.length + 1)) (c.bs.length + 1) (bcells (c.bs ++ [⟨f, t, m⟩])) := by
    have h1 := (O4.out.stored (c.bs.length * 3) (.int .i64 f)).1
    have h2 := (h1.stored (c.bs.length * 3 + 1) (.int .i64 t)).1
    have h3 := (h2.stored (c.bs.length * 3 + 2) (.int .i64 m)).1
    have hbl := bcells_len c.bs
    rw [List.set_append_right _ _ (by omega), hbl, Nat.sub_self, List.set_append_right _ _ (by omega), hbl, show c.bs.length * 3 + 1 - c.bs.length * 3 = 1 by omega, List.set_append_right _ _ (by omega), hbl, show c.bs.length * 3 + 2 - c.bs.length * 3 = 2 by omega] at h3
    rw [bcells_app]
    exact h3
  have xb5 : BelS (fun i => i = g) w4 (((w4.setCell ⟨g, c.bs.length * 3, none⟩ (.int .i64 f)).setCell ⟨g, c.bs.length * 3 + 1, none⟩ (.int .i64 t)).setCell ⟨g, c.bs.length * 3 + 2, none⟩ (.int .i64 m)) := (((BelS.refl _ w4).setCell (S := fun i => i = g) ⟨g, c.bs.length * 3, none⟩ _ rfl).setCell ⟨g, c.bs.length * 3 + 1, none⟩ _ rfl).setCell ⟨g, c.bs.length * 3 + 2, none⟩ _ rfl
  have xs5 : BelS (fun i => i = w.heap.size) (((w4.setCell ⟨g, c.bs.length * 3, none⟩ (.int .i64 f)).setCell ⟨g, c.bs.length * 3 + 1, none⟩ (.int .i64 t)).setCell ⟨g, c.bs.length * 3 + 2, none⟩ (.int .i64 m)) ((((w4.setCell ⟨g, c.bs.length * 3, none⟩ (.int .i64 f)).setCell ⟨g, c.bs.length * 3 + 1, none⟩ (.int .i64 t)).setCell ⟨g, c.bs.length * 3 + 2, none⟩ (.int .i64 m)).setCell ⟨w.heap.size, 1, none⟩ (.slice (some ⟨g, 0, none⟩) (c.bs.length + 1) (c.bs.length + 1))) := (BelS.refl _ _).setCell (S := fun i => i = w.heap.size) ⟨w.heap.size, 1, none⟩ _ rfl
  have GC5 : ((((w4.setCell ⟨g, c.bs.length * 3, none⟩ (.int .i64 f)).setCell ⟨g, c.bs.length * 3 + 1, none⟩ (.int .i64 t)).setCell ⟨g, c.bs.length * 3 + 2, none⟩ (.int .i64 m)).setCell ⟨w.heap.size, 1, none⟩ (.slice (some ⟨g, 0, none⟩) (c.bs.length + 1) (c.bs.length + 1))).heap[w.heap.size]? = some (.cells #[.int .i64 c.ev, (.slice (some ⟨g, 0, none⟩) (c.bs.length + 1) (c.bs.length + 1)), .int .i64 c.wi, .slice A2 c.cl.length c2] 26 (0, 0)) := by
    have := heap_set (xb5.heap GC4 (by show ¬ w.heap.size = g; omega)) (i := 1) (.slice (some ⟨g, 0, none⟩) (c.bs.length + 1) (c.bs.length + 1))
    simpa using this
  have GZ5 := xs5.heap (xb5.heap GZ4 (by show ¬ w.heap.size + 1 + 1 = g; omega)) (by show ¬ w.heap.size + 1 + 1 = w.heap.size; omega)
  have O5 := hid (xs5.own OS (fun k e h => by have h2 : g = k := Option.some.inj e; omega))
  have X5 : Ext w ((((w4.setCell ⟨g, c.bs.length * 3, none⟩ (.int .i64 f)).setCell ⟨g, c.bs.length * 3 + 1, none⟩ (.int .i64 t)).setCell ⟨g, c.bs.length * 3 + 2, none⟩ (.int .i64 m)).setCell ⟨w.heap.size, 1, none⟩ (.slice (some ⟨g, 0, none⟩) (c.bs.length + 1) (c.bs.length + 1))) := (((X4.setCell (by show w.heap.size ≤ g; omega) _).setCell (by show w.heap.size ≤ g; omega) _).setCell (by show w.heap.size ≤ g; omega) _).setCell (Nat.le_refl _) _
  have z5 := xb5.size
  have z6 := xs5.size
  generalize hW5 : ((((w4.setCell ⟨g, c.bs.length * 3, none⟩ (.int .i64 f)).setCell ⟨g, c.bs.length * 3 + 1, none⟩ (.int .i64 t)).setCell ⟨g, c.bs.length * 3 + 2, none⟩ (.int .i64 m)).setCell ⟨w.heap.size, 1, none⟩ (.slice (some ⟨g, 0, none⟩) (c.bs.length + 1) (c.bs.length + 1))) = W5 at xs5 GC5 GZ5 O5 X5 z6 ⊢
  clear hW5 xs5 xb5 OS O4 GC4 GB4 GZ4 X4 fg0 fg1 fg2 g0 g1 g2 fc1 fc3 c0 c1' c2' c3 b0 b1 b2
  have hz5 : w.heap.size + 3 ≤ W5.heap.size := by omega
  have hg5 : g < W5.heap.size := by omega
  clear z5 z6 hg4 hg3
  obtain ⟨xs0, hR0, hC0⟩ := hC.ext X5
  refine (twin_any A2 c2 c.cl W5 xs0 hR0 hC0 (by omega) (fun x hx => by have := HL3.out x hx; omega)).mono ?_
  rintro e w6 ⟨A6, c6, ys, rfl, o6, hcl, _, hx6⟩
  have GC6 := (Below.block hx6 _ (by omega)).trans GC5
  have GZ6 := (Below.block hx6 _ (by omega)).trans GZ5
  have X6 := X5.trans hx6
  have O6 := hid (own_below O5.out hx6)
  have OC := hid o6
  have HCL := hid hcl
  have hz6 := hx6.size
  clear GC5 GZ5 X5 o6 hcl O5 hR0 hC0 hx6
  have c0 := block_cell (i := 0) GC6
  have c1' := block_cell (i := 1) GC6
  have c2' := block_cell (i := 2) GC6
  have c3 := block_cell (i := 3) GC6
  have fc3 := block_free (i := 3) GC6
  simp only [List.getElem?_toArray, List.getElem?_cons_zero, List.getElem?_cons_succ] at c0 c1' c2' c3
  have z0 := block_cell (i := 0) GZ6
  have z1 := block_cell (i := 1) GZ6
  have z2 := block_cell (i := 2) GZ6
  have z3 := block_cell (i := 3) GZ6
  have f0 := block_free (i := 0) GZ6
  have f1 := block_free (i := 1) GZ6
  have f2 := block_free (i := 2) GZ6
  have f3 := block_free (i := 3) GZ6
  simp only [List.getElem?_toArray, List.getElem?_cons_zero, List.getElem?_cons_succ] at z0 z1 z2 z3
  have nz : w.heap.size + 1 + 1 ≠ w.heap.size := by omega
  go_wp2
  have xb7 : BelS (fun i => i = w.heap.size ∨ i = w.heap.size + 1 + 1) w6 (((((w6.setCell ⟨w.heap.size, 3, none⟩ (.slice A6 c.cl.length c6)).setCell ⟨w.heap.size + 1 + 1, 0, none⟩ (.int .i64 c.ev)).setCell ⟨w.heap.size + 1 + 1, 1, none⟩ (.slice (some ⟨g, 0, none⟩) (c.bs.length + 1) (c.bs.length + 1))).setCell ⟨w.heap.size + 1 + 1, 2, none⟩ (.int .i64 c.wi)).setCell ⟨w.heap.size + 1 + 1, 3, none⟩ (.slice A6 c.cl.length c6)) :=
    (((((BelS.refl _ w6).setCell (S := fun i => i = w.heap.size ∨ i = w.heap.size + 1 + 1) ⟨w.heap.size, 3, none⟩ _ (.inl rfl)).setCell ⟨w.heap.size + 1 + 1, 0, none⟩ _ (.inr rfl)).setCell ⟨w.heap.size + 1 + 1, 1, none⟩ _ (.inr rfl)).setCell ⟨w.heap.size + 1 + 1, 2, none⟩ _ (.inr rfl)).setCell ⟨w.heap.size + 1 + 1, 3, none⟩ _ (.inr rfl)
  have X7 : Ext w (((((w6.setCell ⟨w.heap.size, 3, none⟩ (.slice A6 c.cl.length c6)).setCell ⟨w.heap.size + 1 + 1, 0, none⟩ (.int .i64 c.ev)).setCell ⟨w.heap.size + 1 + 1, 1, none⟩ (.slice (some ⟨g, 0, none⟩) (c.bs.length + 1) (c.bs.length + 1))).setCell ⟨w.heap.size + 1 + 1, 2, none⟩ (.int .i64 c.wi)).setCell ⟨w.heap.size + 1 + 1, 3, none⟩ (.slice A6 c.cl.length c6)) := ((((X6.setCell (Nat.le_refl _) _).setCell (by simp; omega) _).setCell (by simp; omega) _).setCell (by simp; omega) _).setCell (by simp; omega) _
  have O7 := xb7.own O6.out (fun k e h => by have h2 : g = k := Option.some.inj e; omega)
  have OC7 := own_base (base' := w.heap.size) (xb7.own OC.out (fun k e h => by have := (OC.out.lt k e).1; omega)) (by omega)
  have HC7 := (HCL.out.keep (fun v n zs ho => xb7.own ho (fun k e h => by have := (ho.lt k e).1; omega))).base (B' := w.heap.size) (by omega)
  refine bodyPost_ret (v := .tuple #[.agg #[.int .i64 c.ev, (.slice (some ⟨g, 0, none⟩) (c.bs.length + 1) (c.bs.length + 1)), .int .i64 c.wi, .slice A6 c.cl.length c6], .int .i64 T]) ?_ rfl ⟨.agg #[.int .i64 c.ev, (.slice (some ⟨g, 0, none⟩) (c.bs.length + 1) (c.bs.length + 1)), .int .i64 c.wi, .slice A6 c.cl.length c6], by rw [HT.out], X7, fun h => absurd (HT.out.symm ▸ HTK.out) h, fun _ => ⟨some ⟨g, 0, none⟩, c.bs.length + 1, A6, c6, ys, ?_, ?_, OC7, HC7⟩⟩
  · rw [results_cell_tmp rfl]
    simp only [HTK.out]
    go_simp
  · unfold Cs.add; simp
  · unfold Cs.add; simpa using O7
end Go.Proofs.Ytgnjhaomlbkgcaa

namespace Go.Proofs.Ytgnjhaomlbkgcaa
open Go Go.RowKit Go.Shelf
set_option linter.unusedVariables false
set_option linter.unusedSimpArgs false

theorem run_clear_own {P : Program} (w : World) (sT elem e : TypeId) (z : Value) {B n cap g sz : Nat} {zs : List Value} (hu : P.underlying sT = some (.slice elem)) (hz : ∀ w, (zeroValue elem).run P w = .ok z w) (hzs : z.cells.size = sz) (hz1 : ∀ v ∈ z.cells, v.oneCell' = true)
    (hown : w.ownsRow B e sz (.slice (some ⟨g, 0, none⟩) n cap) n zs) (i c : Nat) (hi : i < n) (hsz : 0 < sz) :
    ∃ w', (∀ ty, (Builtin.clear_ #[sT] ty #[.slice (some ⟨g, i * sz, none⟩) (n - i) c]).run P w = .ok (.tuple #[]) w') ∧ BelS (fun k => k = g) w w' ∧
      ∃ ys, ys.length = (n - i) * sz ∧ w'.ownsRow B e sz (.slice (some ⟨g, 0, none⟩) n cap) n (zs.take (i * sz) ++ ys) := by
  rcases hown.2 with ⟨h, _⟩ | ⟨g', cap', cur, h, hb, hg, hnc, hcm, hcs, htake⟩
  · cases h
  · cases h
    obtain ⟨k, hk⟩ : ∃ k, n - i = k + 1 := ⟨n - i - 1, by omega⟩
    have hlen : ((Builtin.zeroCells z.cells (n - i)).toList).length = (n - i) * sz := by rw [Array.length_toList, size_zeroCells, hzs]
    have hone : ∀ v ∈ (Builtin.zeroCells z.cells (n - i)).toList, v.oneCell' = true := by
      intro v hv
      unfold Builtin.zeroCells at hv
      simp only [Array.toList_map, List.mem_map] at hv
      obtain ⟨j, hj, rfl⟩ := hv
      have hlt : j % z.cells.size < z.cells.size := Nat.mod_lt _ (by omega)
      rw [getElem!_pos z.cells _ hlt]
      exact hz1 _ (Array.getElem_mem hlt)
    have hni : i * sz + (n - i) * sz = n * sz := by rw [← Nat.add_mul]; congr 1; omega
    have hNc : n * sz ≤ cap * sz := Nat.mul_le_mul_right sz hnc
    have hfit : i * sz + 0 + ((Builtin.zeroCells z.cells (n - i)).toList).length ≤ cur.size := by rw [hlen]; omega
    have hst := run_storeCells_at P g (i * sz) e _ 0 cur w hg hfit hone
    generalize hvs : (Builtin.zeroCells z.cells (n - i)).toList = vs at *
    refine ⟨w.setRow g (cur.toList.take (i * sz + 0) ++ vs ++ cur.toList.drop (i * sz + 0 + vs.length)).toArray, fun ty => ?_, ?_, vs, hlen, ⟨?_, .inr ⟨g, cap, _, rfl, hb, setRow_heap w g cur _ e (0, 0) hg, hnc, hcm, ?_, ?_⟩⟩⟩
    · rw [hk] at hvs ⊢
      simp [Builtin.clear_, run_underlying hu, hz, hvs, hst]
    · exact ⟨⟨rfl, rfl, rfl, by simp, fun k hk => absurd hk (Nat.not_lt_zero _)⟩, fun k _ hk => setRow_other w g k _ hk⟩
    · rw [List.length_append, List.length_take, hown.1, hlen, Nat.min_eq_left (by omega)]; exact hni
    · simp only [List.size_toArray, List.length_append, List.length_take, List.length_drop, Array.length_toList, hlen, Nat.add_zero]
      omega
    · simp only [Nat.add_zero]
      have hA : (cur.toList.take (i * sz)).length = i * sz := by rw [List.length_take, Array.length_toList]; omega
      have hX : (cur.toList.take (i * sz) ++ vs).length = n * sz := by rw [List.length_append, hA, hlen]; exact hni
      rw [← htake, List.take_take, Nat.min_eq_left (by omega), List.take_left' hX]

theorem ClW.take {w : World} {B : Nat} : ∀ {xs : List Value} {l : List Cl} (k : Nat), ClW w B xs l → ClW w B (xs.take (k * 2)) (l.take k)
  | [], [], k, _ => by simp [ClW]
  | _ :: _ :: xs, _ :: l, 0, _ => trivial
  | _ :: _ :: xs, _ :: l, k + 1, ⟨h1, h2, h3⟩ => by
    have e : (k + 1) * 2 = k * 2 + 1 + 1 := by omega
    rw [e]
    exact ⟨h1, h2, ClW.take k h3⟩
  | [_], _, _, h => by cases ‹List Cl› <;> exact h.elim
theorem ClW.get {w : World} {B : Nat} : ∀ {xs : List Value} {l : List Cl}, ClW w B xs l → ∀ (k : Nat) (x : Cl), l[k]? = some x →
    xs[k * 2]? = some (.int .i64 x.w) ∧ ∃ A c, xs[k * 2 + 1]? = some (.slice A x.bs.length c) ∧ w.ownsRow B 35 3 (.slice A x.bs.length c) x.bs.length (bcells x.bs)
  | [], [], _, k, x, hk => by simp at hk
  | a :: b :: xs, y :: l, ⟨h1, ⟨A, c, h2, h3⟩, h4⟩, k, x, hk => by
    cases k with
    | zero =>
      simp at hk; subst hk
      exact ⟨by simp [h1], A, c, by simp [h2], h3⟩
    | succ k =>
      have := ClW.get h4 k x (by simpa using hk)
      have e : (k + 1) * 2 = k * 2 + 1 + 1 := by omega
      rw [e]
      simp only [List.getElem?_cons_succ]
      exact this
  | [_], _, h, _, _, _ => by cases ‹List Cl› <;> exact h.elim
theorem idxF_some {α : Type} (p : α → Bool) : ∀ (l : List α) (i : Nat), idxF p l i = -1 ∧ (∀ x ∈ l, p x = false) ∨ ∃ k x, idxF p l i = ((i + k : Nat) : Int) ∧ l[k]? = some x ∧ p x = true ∧ ∀ y ∈ l.take k, p y = false := by
  intro l
  induction l with
  | nil => intro i; exact .inl ⟨rfl, fun x h => by cases h⟩
  | cons x l ih =>
    intro i
    unfold idxF
    cases hp : p x
    · rcases ih (i + 1) with ⟨h1, h2⟩ | ⟨k, y, h1, h2, h3, h4⟩
      · left
        refine ⟨by simpa using h1, fun y hy => ?_⟩
        rcases List.mem_cons.1 hy with rfl | hy
        · exact hp
        · exact h2 y hy
      · right
        refine ⟨k + 1, y, ?_, by simpa using h2, h3, fun z hz => ?_⟩
        · rw [if_neg (by simp), h1]; congr 1; omega
        · rw [List.take_succ_cons] at hz
          rcases List.mem_cons.1 hz with rfl | hz
          · exact hp
          · exact h4 z hz
    · right
      exact ⟨0, x, by simp, rfl, hp, fun y hy => by simp at hy⟩
theorem Kc.below {a w w' : World} {B : Nat} (h : Kc a w) (hx : Below B w w') (hB : a.heap.size ≤ B) : Kc a w' := fun p u hp => by
  have hlt := World.block_lt_of_cell? a p hp
  exact (Below.cell hx (by omega)).trans (h p u hp)
theorem keep_filter {α : Type} {p : α → Bool} {l : List α} {j : Nat} {x : α} (hj : l[j]? = some x) : (l.take (j + 1)).filter (fun x => !p x) = (l.take j).filter (fun x => !p x) ++ if p x then [] else [x] := by
  obtain ⟨h1, h2⟩ := List.getElem?_eq_some_iff.1 hj
  rw [List.take_succ_eq_append_getElem h1, h2, List.filter_append]
  congr 1
  cases hp : p x <;> simp [hp]

theorem own_take {w : World} {B e sz g n cap : Nat} {zs : List Value} (h : w.ownsRow B e sz (.slice (some ⟨g, 0, none⟩) n cap) n zs) {a : Nat} (ha : a ≤ n) : w.ownsRow B e sz (.slice (some ⟨g, 0, none⟩) a cap) a (zs.take (a * sz)) := by
  have hm : a * sz ≤ n * sz := Nat.mul_le_mul_right sz ha
  refine ⟨by rw [List.length_take, h.1]; omega, ?_⟩
  rcases h.2 with ⟨h', _⟩ | ⟨g', cap', cur, h', hb, hg, hnc, hcm, hcs, htake⟩
  · cases h'
  · cases h'
    exact .inr ⟨g, cap, cur, rfl, hb, hg, Nat.le_trans ha hnc, hcm, hcs, by rw [← htake, List.take_take, Nat.min_eq_left hm]⟩

theorem BelS.below {w w' : World} {g B : Nat} (h : BelS (fun k => k = g) w w') (hB : B ≤ g) (hw : B ≤ w.heap.size) : Below B w w' := by
  obtain ⟨⟨k1, k2, k3, k4, _⟩, k5⟩ := h
  exact ⟨k1, k2, k3, k4, fun i hi => k5 i (by omega) (by omega)⟩
theorem take_set2 {zs : List Value} {a : Nat} (u v : Value) (h : (a + 1) * 2 ≤ zs.length) : ((zs.set (a * 2) u).set (a * 2 + 1) v).take ((a + 1) * 2) = zs.take (a * 2) ++ [u, v] := by
  apply List.ext_getElem?
  intro i
  rw [List.getElem?_take]
  by_cases h1 : i < a * 2
  · rw [if_pos (by omega), List.getElem?_set_ne (by omega), List.getElem?_set_ne (by omega), List.getElem?_append_left (by simp; omega), List.getElem?_take, if_pos h1]
  · rw [List.getElem?_append_right (by simp; omega)]
    have hl : (zs.take (a * 2)).length = a * 2 := by simp; omega
    rw [hl]
    by_cases h2 : i = a * 2
    · subst h2
      rw [if_pos (by omega), List.getElem?_set_ne (by omega), List.getElem?_set_self (by omega), Nat.sub_self]; rfl
    · by_cases h3 : i = a * 2 + 1
      · subst h3
        rw [if_pos (by omega), List.getElem?_set_self (by simp; omega), show a * 2 + 1 - a * 2 = 1 by omega]; rfl
      · rw [if_neg (by omega), List.getElem?_eq_none (by simp; omega)]

def DelPost (B : Nat) (p : Cl → Bool) (l : List Cl) (w : World) (e : Ending) (w' : World) : Prop :=
  ∃ A2 c2 ys, e = .returned (.slice A2 (l.filter fun x => !p x).length c2) ∧ w'.ownsRow B 37 2 (.slice A2 (l.filter fun x => !p x).length c2) (l.filter fun x => !p x).length ys ∧ ClW w' B ys (l.filter fun x => !p x) ∧ Below B w w'

set_option maxRecDepth 100000 in
set_option maxHeartbeats 4000000 in
theorem deleteClaim_any (B : Nat) (A : Option Addr) (c' : Nat) (l : List Cl) (xs : List Value) (fv : Value) (p : Cl → Bool) (w0 w : World) (hown : w.ownsRow B 37 2 (.slice A l.length c') l.length xs) (hC : ClW w B xs l)
    (hfv : FnP Try.prog fv w0 ClR anyx p) (hk : Kc w0 w) (hB : w0.heap.size ≤ B) (hBw : B ≤ w.heap.size) (hl : l.length ≤ 1000) :
    Calls Try.prog 127 #[.slice A l.length c', fv] w (DelPost B p l w) := by
  obtain ⟨gf, fst, lb, hfe, eg, hcall⟩ := hfv
  have HFV : Hid (FnP Try.prog fv w0 ClR anyx p) := ⟨gf, fst, lb, hfe, eg, hcall⟩
  have HC := hid hcall
  have HKC := hid hk
  have HCL : Hid (Claims w A l) := ⟨xs, Rd.of_own hown, hC.toC⟩
  have O0 := hid hown
  have C0 := hid hC
  have HF := hid (idxF_some p l 0)
  clear hcall hk hown hC
  subst hfe
  go_enter Try.func127, Try.ntmps127
  go_wp2_with fail
  refine (indexFunc_claim A c' l _ anyx p w HCL.out (by omega) (anyx_all l) (HFV.out.kc HKC.out)).mono ?_
  rintro e w1 ⟨rfl, hx1⟩
  rcases HF.out with ⟨h1, h2⟩ | ⟨k, x, h1, h2, h3, h4⟩
  · have hfl : l.filter (fun x => !p x) = l := List.filter_eq_self.2 fun x hx => by rw [h2 x hx]; rfl
    have HFL := hid hfl
    rw [h1]
    clear h1 h2 hfl HF
    go_wp2
    go_ret
    exact ⟨A, c', xs, (by rw [HFL.out]; rfl), by rw [HFL.out]; exact own_below O0.out hx1, by rw [HFL.out]; exact C0.out.ext hx1, Below.mono hx1 hBw⟩
  · rw [h1, Nat.zero_add]
    have hkl : k < l.length := (List.getElem?_eq_some_iff.1 h2).1
    have hst : (l.take (k + 1)).filter (fun x => !p x) = l.take k := by
      rw [keep_filter h2, h3, if_pos rfl, List.append_nil]
      exact List.filter_eq_self.2 fun x hx => by rw [h4 x hx]; rfl
    obtain ⟨g, hg⟩ : ∃ g, A = some ⟨g, 0, none⟩ := by
      rcases O0.out.2 with ⟨_, h0⟩ | ⟨g, _, _, h, _⟩
      · omega
      · cases h; exact ⟨g, rfl⟩
    subst hg
    have HST := hid hst
    have O1 := hid (own_below O0.out hx1)
    have C1 := hid (C0.out.ext hx1)
    have b1 : Below B w w1 := Below.mono hx1 hBw
    have hkw : IntKind.i64.wrap ((k : Int) + 1) = (k : Int) + 1 := IntWalk.i64_in _ ⟨by omega, by omega⟩
    have hk1 : ¬ (k : Int) = -1 := by omega
    have hk2 : ((k : Int) == -1) = false := by simp
    have S1 : Hid (ClW w1 B (xs.take (k * 2)) ((l.take (k + 1)).filter fun x => !p x)) := by
      unfold Hid; rw [HST.out]; exact C1.out.take k
    have L1 : Hid (((l.take (k + 1)).filter fun x => !p x).length = k) := by
      unfold Hid; rw [HST.out]; simp; omega
    clear h1 h2 h3 h4 hst hx1 HF HCL HFV HST C0 O0
    go_wp2
    go_loopw [5, 6, 7] (fun i j _ wr => ∃ (a b : Nat) (zs : List Value), i = .int .i64 (a : Int) ∧ j = .int .i64 (b : Int) ∧ a < b ∧ b ≤ l.length ∧ Hid (wr.ownsRow B 37 2 (.slice (some ⟨g, 0, none⟩) l.length c') l.length zs) ∧ Hid (ClW wr B (zs.take (a * 2)) ((l.take b).filter fun x => !p x)) ∧
        Hid (((l.take b).filter fun x => !p x).length = a) ∧ Hid (∀ q, 2 * b ≤ q → zs[q]? = xs[q]?) ∧ Hid (ClW wr B xs l) ∧ Below B w wr) (fun _ j _ _ => l.length - (intOf j).toNat)
    case atStart => exact ⟨k, k + 1, xs, rfl, by go_num, by omega, by omega, O1, S1, L1, fun _ _ => rfl, C1, b1⟩
    case round =>
      obtain ⟨a, b, zs, rfl, rfl, hab, hbl, O2, S2, L2, Z2, C2, hb2⟩ := hrel
      by_cases hlt : b < l.length
      · have hlt' : (b : Int) < (l.length : Int) := by omega
        obtain ⟨x, hx⟩ := get_of_lt l b hlt
        obtain ⟨g0, A3, k3, g1, hrow⟩ := C2.out.get b x hx
        have c0 := O2.out.cellAt (b * 2) (by omega)
        have c1 := O2.out.cellAt (b * 2 + 1) (by omega)
        rw [Z2.out _ (by omega), g0] at c0
        rw [Z2.out _ (by omega), g1] at c1
        have HKF := hid (keep_filter (p := p) hx)
        have HROW := hid hrow
        have xo := Ext.alloc (Ext.refl wr) (.cells #[.int .i64 x.w, .slice A3 x.bs.length k3] 37)
        have hkk : Kc w0 (wr.alloc (.cells #[.int .i64 x.w, .slice A3 x.bs.length k3] 37)) := (HKC.out.below hb2 hB).trans xo.kc
        have K := HC.out x (.agg #[.int .i64 x.w, .slice A3 x.bs.length k3]) _ trivial hkk ⟨A3, k3, rfl, Rd.of_own (own_below hrow xo)⟩
        have HK := hid K
        have hszB : B ≤ wr.heap.size := by have := hb2.size; omega
        clear hx g0 g1 hrow hkk K
        go_wp2_with fail
        refine HK.out.mono ?_
        rintro e w9 ⟨rfl, hx9⟩
        have xx := xo.trans hx9
        have b9 : Below B w w9 := hb2.trans (Below.mono xx hszB)
        have O9 := hid (own_below O2.out xx)
        have S9 := hid (S2.out.ext xx)
        have C9 := hid (C2.out.ext xx)
        have z0 := hx9.cell (p := ⟨wr.heap.size, 0, none⟩) (u := .int .i64 x.w) (by simp [go_sem])
        have z1 := hx9.cell (p := ⟨wr.heap.size, 1, none⟩) (u := .slice A3 x.bs.length k3) (by simp [go_sem])
        have hbw : IntKind.i64.wrap ((b : Int) + 1) = (b : Int) + 1 := IntWalk.i64_in _ ⟨by omega, by omega⟩
        have haw : IntKind.i64.wrap ((a : Int) + 1) = (a : Int) + 1 := IntWalk.i64_in _ ⟨by omega, by omega⟩
        cases hp : p x
        · have L9 : Hid (((l.take (b + 1)).filter fun x => !p x).length = a + 1) := by
            unfold Hid; rw [HKF.out, hp, List.length_append, L2.out]; simp
          have HKF2 : Hid ((l.take (b + 1)).filter (fun x => !p x) = (l.take b).filter (fun x => !p x) ++ [x]) := by
            unfold Hid; rw [HKF.out, hp]; rfl
          have RX := hid (own_below HROW.out xx)
          have ha1 : (a : Int) < (l.length : Int) := by omega
          have f := O9.out.frozenAt
          have f0 := f (a * 2)
          have f1 := f (a * 2 + 1)
          have d0 := O9.out.cellAt (a * 2) (by omega)
          have d1 := O9.out.cellAt (a * 2 + 1) (by omega)
          have hzl : zs.length = l.length * 2 := O9.out.1
          rw [List.getElem?_eq_getElem (show a * 2 < zs.length by omega)] at d0
          rw [List.getElem?_eq_getElem (show a * 2 + 1 < zs.length by omega)] at d1
          clear HKF hp S2 C2 O2 HROW HK xo c0 c1 f hx9
          go_wp2
          have hT2 := own_ty O9.out
          have hgB := O9.out.lt g rfl
          have xg : BelS (fun k => k = g) w9 ((w9.setCell ⟨g, a * 2, none⟩ (.int .i64 x.w)).setCell ⟨g, a * 2 + 1, none⟩ (.slice A3 x.bs.length k3)) := ((BelS.refl _ w9).setCell (S := fun k => k = g) ⟨g, a * 2, none⟩ _ rfl).setCell ⟨g, a * 2 + 1, none⟩ _ rfl
          have N2 := hid (((O9.out.stored (a * 2) (.int .i64 x.w)).1).stored (a * 2 + 1) (.slice A3 x.bs.length k3)).1
          have NS : Hid (ClW ((w9.setCell ⟨g, a * 2, none⟩ (.int .i64 x.w)).setCell ⟨g, a * 2 + 1, none⟩ (.slice A3 x.bs.length k3)) B (((zs.set (a * 2) (.int .i64 x.w)).set (a * 2 + 1) (.slice A3 x.bs.length k3)).take ((a + 1) * 2)) ((l.take (b + 1)).filter fun x => !p x)) := by
            unfold Hid
            rw [HKF2.out, take_set2 _ _ (by omega)]
            exact ClW.app (m := [x]) (S9.out.keep fun v n ys ho => own_apart xg hT2 ho) ⟨rfl, ⟨A3, k3, rfl, own_apart xg hT2 RX.out⟩, trivial⟩
          have NZ : Hid (∀ q, 2 * (b + 1) ≤ q → ((zs.set (a * 2) (.int .i64 x.w)).set (a * 2 + 1) (.slice A3 x.bs.length k3))[q]? = xs[q]?) := fun q hq => by
            rw [List.getElem?_set_ne (by omega), List.getElem?_set_ne (by omega)]; exact Z2.out q (by omega)
          have NC : Hid (ClW ((w9.setCell ⟨g, a * 2, none⟩ (.int .i64 x.w)).setCell ⟨g, a * 2 + 1, none⟩ (.slice A3 x.bs.length k3)) B xs l) := C9.out.keep fun v n ys ho => own_apart xg hT2 ho
          have nb : Below B w ((w9.setCell ⟨g, a * 2, none⟩ (.int .i64 x.w)).setCell ⟨g, a * 2 + 1, none⟩ (.slice A3 x.bs.length k3)) := b9.trans (xg.below (by omega) (by omega))
          clear xg hgB hT2
          go_roundw
          case rel => exact ⟨a + 1, b + 1, _, by go_num, by go_num, by omega, by omega, N2, NS, L9, NZ, NC, nb⟩
          case measure => simp [intOf]; omega
        · have L9 : Hid (((l.take (b + 1)).filter fun x => !p x).length = a) := by
            unfold Hid; rw [HKF.out, hp, if_pos rfl, List.append_nil, L2.out]
          have S10 : Hid (ClW w9 B (zs.take (a * 2)) ((l.take (b + 1)).filter fun x => !p x)) := by
            unfold Hid; rw [HKF.out, hp, if_pos rfl, List.append_nil]; exact S9.out
          clear HKF hp S2 C2 O2 S9 HROW HK xo c0 c1 z0 z1 hx9
          go_wp2
          go_roundw
          case rel => exact ⟨a, b + 1, zs, rfl, by go_num, by omega, by omega, O9, S10, L9, fun q hq => Z2.out q (by omega), C9, b9⟩
          case measure => simp [intOf]; omega
      · have hlt' : ¬ (b : Int) < (l.length : Int) := by omega
        have hbe : b = l.length := by omega
        have hL2 := L2.out
        have hS2 := S2.out
        rw [hbe, List.take_length] at hL2 hS2
        obtain ⟨W9, hcl, hB9, ys, hys, hO9⟩ := run_clear_own (P := Try.prog) (sz := 2) wr 24 37 37 (.agg #[.int .i64 0, .slice none 0 0]) Try.underlying24 (fun w => by kernel_rfl) rfl (by intro v hv; simp [Value.cells] at hv; rcases hv with rfl | rfl <;> rfl) O2.out a (c' - a) (show a < l.length by omega) (show 0 < 2 by decide)
        have HS := hid hS2
        have HL := hid hL2
        have HO9 := hid hO9
        have hgB := O2.out.lt g rfl
        have hT2 := own_ty O2.out
        have bf : Below B w W9 := hb2.trans (hB9.below (by have := hgB.1; omega) (by have := hgB.2; have := hgB.1; omega))
        have SF : Hid (ClW W9 B (zs.take (a * 2)) (l.filter fun x => !p x)) := HS.out.keep fun v n ys ho => own_apart hB9 hT2 ho
        have ha1 : (a : Int) ≤ (l.length : Int) := by omega
        have ha0 : ¬ (a : Int) < 0 := by omega
        have hac : a ≤ c' := by
          rcases O2.out.2 with ⟨h, _⟩ | ⟨_, cap', _, h, _, _, hnc, _⟩
          · cases h
          · cases h; omega
        have hac' : (a : Int) ≤ (c' : Int) := by omega
        have hlc' : (l.length : Int) ≤ (c' : Int) := by
          rcases O2.out.2 with ⟨h, _⟩ | ⟨_, cap', _, h, _, _, hnc, _⟩
          · cases h
          · cases h; omega
        clear hS2 hL2 hO9 hys S2 L2 Z2 C2 hgB hB9
        have hcl0 := hcl 0
        go_wp2
        go_ret
        have hOT := own_take HO9.out (a := a) (by omega)
        rw [List.take_append_of_le_length (by have := O2.out.1; rw [List.length_take]; omega), List.take_take, Nat.min_self] at hOT
        exact ⟨some ⟨g, 0, none⟩, c', zs.take (a * 2), (by rw [HL.out]; rfl), by rw [HL.out]; exact hOT, SF.out, bf⟩
end Go.Proofs.Ytgnjhaomlbkgcaa

namespace Go.Proofs.Ytgnjhaomlbkgcaa
open Go Go.RowKit Go.Shelf
set_option linter.unusedVariables false
set_option linter.unusedSimpArgs false

/-- The error of a list of witnesses: 1 one that is none, 5 one that is there twice, 0. -/
def witE (wi : Int) : List Int → List Int → Int
  | _, [] => 0
  | pre, n :: r => if !inB n 0 (wi - 1) then 1 else if memI n pre then 5 else witE wi (pre ++ [n]) r
def believeC (c : Cs) (W : List Int) : Int := if checkC c ≠ 0 then checkC c else witE c.wi [] W
theorem witE_asc {wi : Nat} : ∀ {W : List Int} {k : Nat} {pre : List Int}, Asc k wi W → (∀ x ∈ pre, x < k) → witE wi pre W = 0 := by
  intro W
  induction W with
  | nil => intro k pre _ _; rfl
  | cons n W ih =>
    intro k pre h hp
    obtain ⟨h1, h2, h3⟩ := h
    unfold witE
    have e1 : inB n 0 ((wi : Int) - 1) = true := inB_iff.2 ⟨by omega, by omega⟩
    have e2 : memI n pre = false := by
      rw [Bool.eq_false_iff]; intro hm
      have := hp n (mem_memI.1 hm)
      omega
    rw [e1, e2]
    refine ih h3 fun x hx => ?_
    rcases List.mem_append.1 hx with hx | hx
    · have := hp x hx; omega
    · simp at hx; subst hx; omega
def BelPost (w : World) (c : Cs) (W : List Int) (e : Ending) (w' : World) : Prop :=
  ∃ r, e = .returned (.tuple #[r, .int .i64 (believeC c W)]) ∧ Ext w w' ∧ (believeC c W ≠ 0 → r = zeroCs) ∧ (believeC c W = 0 → FreshCs w' w.heap.size r (c.believe fun x => memI x W))

theorem believe1_fn (w : World) (B : Nat) (A : Option Addr) (k : Nat) (l : List Int) (hB : w.cell? ⟨B, 0, none⟩ = some (.slice A l.length k)) (hA : Ints w A l) (hl : l.length ≤ 9223372036854775807) :
    FnP Try.prog (.func (.func 128) #[] #[.pointer (some ⟨B, 0, none⟩)]) w ClR anyx (fun x => !memI x.w l) := by
  refine ⟨_, _, _, rfl, enters_of Try.func128 (by kernel_rfl) rfl, fun x v2 W _ hW hR => ?_⟩
  obtain ⟨A2, k2, rfl, _⟩ := hR
  have hxa : Ext W (W.alloc (.cells #[.int .i64 x.w, .slice A2 x.bs.length k2] 37)) := Ext.alloc (Ext.refl W) _
  have hcell := hxa.cell (hW.cell hB)
  show Calls _ _ #[_, _] _ _
  go_enter Try.func128, Try.ntmps128
  go_wp2_with fail
  refine (containsI_any x.w A k l _ ((hA.kc hW).ext hxa) hl).mono ?_
  rintro e w1 ⟨rfl, rfl⟩
  go_wp2
  go_ret
  exact ⟨rfl, hxa⟩

set_option maxRecDepth 100000 in
set_option maxHeartbeats 4000000 in
theorem believe_any (v : Value) (c : Cs) (A : Option Addr) (k0 : Nat) (W : List Int) (w : World) (hc : CsR w v c) (hs : c.sized) (hA : Ints w A W) (hl : W.length ≤ 1000000) (hcap : W.length ≤ k0) :
    Calls Try.prog 66 #[v, .slice A W.length k0] w (BelPost w c W) := by
  have hc' := hc
  obtain ⟨A1, c1, A2, c2, rfl, hB, hC⟩ := hc
  obtain ⟨T, hT⟩ : ∃ T, believeC c W = T := ⟨_, rfl⟩
  have HT := hid hT
  unfold believeC at hT
  have HT2 := hid hT
  clear hT
  go_enter Try.func66, Try.ntmps66
  go_wp2_with fail
  have x0 := Ext.alloc (Ext.alloc (Ext.alloc (Ext.refl w) (.cells #[.int .i64 c.ev, .slice A1 c.bs.length c1, .int .i64 c.wi, .slice A2 c.cl.length c2] 26)) (.cells #[.slice A W.length k0] 27)) (.cells #[.int .i64 0, .slice none 0 0, .int .i64 0, .slice none 0 0] 26)
  have hz0 : (((w.alloc (.cells #[.int .i64 c.ev, .slice A1 c.bs.length c1, .int .i64 c.wi, .slice A2 c.cl.length c2] 26)).alloc (.cells #[.slice A W.length k0] 27)).alloc (.cells #[.int .i64 0, .slice none 0 0, .int .i64 0, .slice none 0 0] 26)).heap.size = w.heap.size + 3 := by simp
  have GC : (((w.alloc (.cells #[.int .i64 c.ev, .slice A1 c.bs.length c1, .int .i64 c.wi, .slice A2 c.cl.length c2] 26)).alloc (.cells #[.slice A W.length k0] 27)).alloc (.cells #[.int .i64 0, .slice none 0 0, .int .i64 0, .slice none 0 0] 26)).heap[w.heap.size]? = some (.cells #[.int .i64 c.ev, .slice A1 c.bs.length c1, .int .i64 c.wi, .slice A2 c.cl.length c2] 26 (0, 0)) := (Below.block (Ext.alloc (Ext.alloc (Ext.refl (w.alloc (.cells #[.int .i64 c.ev, .slice A1 c.bs.length c1, .int .i64 c.wi, .slice A2 c.cl.length c2] 26))) (.cells #[.slice A W.length k0] 27)) (.cells #[.int .i64 0, .slice none 0 0, .int .i64 0, .slice none 0 0] 26)) w.heap.size (by simp)).trans (heap_alloc_new w _)
  have GB : (((w.alloc (.cells #[.int .i64 c.ev, .slice A1 c.bs.length c1, .int .i64 c.wi, .slice A2 c.cl.length c2] 26)).alloc (.cells #[.slice A W.length k0] 27)).alloc (.cells #[.int .i64 0, .slice none 0 0, .int .i64 0, .slice none 0 0] 26)).heap[w.heap.size + 1]? = some (.cells #[.slice A W.length k0] 27 (0, 0)) := by
    have h := heap_alloc_new (w.alloc (.cells #[.int .i64 c.ev, .slice A1 c.bs.length c1, .int .i64 c.wi, .slice A2 c.cl.length c2] 26)) (.cells #[.slice A W.length k0] 27)
    rw [show (w.alloc (.cells #[.int .i64 c.ev, .slice A1 c.bs.length c1, .int .i64 c.wi, .slice A2 c.cl.length c2] 26)).heap.size = w.heap.size + 1 by simp] at h
    exact (Below.block (Ext.alloc (Ext.refl ((w.alloc (.cells #[.int .i64 c.ev, .slice A1 c.bs.length c1, .int .i64 c.wi, .slice A2 c.cl.length c2] 26)).alloc (.cells #[.slice A W.length k0] 27))) (.cells #[.int .i64 0, .slice none 0 0, .int .i64 0, .slice none 0 0] 26)) (w.heap.size + 1) (by simp)).trans h
  have GZ : (((w.alloc (.cells #[.int .i64 c.ev, .slice A1 c.bs.length c1, .int .i64 c.wi, .slice A2 c.cl.length c2] 26)).alloc (.cells #[.slice A W.length k0] 27)).alloc (.cells #[.int .i64 0, .slice none 0 0, .int .i64 0, .slice none 0 0] 26)).heap[w.heap.size + 1 + 1]? = some (.cells #[.int .i64 0, .slice none 0 0, .int .i64 0, .slice none 0 0] 26 (0, 0)) := by
    have h := heap_alloc_new ((w.alloc (.cells #[.int .i64 c.ev, .slice A1 c.bs.length c1, .int .i64 c.wi, .slice A2 c.cl.length c2] 26)).alloc (.cells #[.slice A W.length k0] 27)) (.cells #[.int .i64 0, .slice none 0 0, .int .i64 0, .slice none 0 0] 26)
    rwa [show ((w.alloc (.cells #[.int .i64 c.ev, .slice A1 c.bs.length c1, .int .i64 c.wi, .slice A2 c.cl.length c2] 26)).alloc (.cells #[.slice A W.length k0] 27)).heap.size = w.heap.size + 1 + 1 by simp] at h
  generalize hW0 : (((w.alloc (.cells #[.int .i64 c.ev, .slice A1 c.bs.length c1, .int .i64 c.wi, .slice A2 c.cl.length c2] 26)).alloc (.cells #[.slice A W.length k0] 27)).alloc (.cells #[.int .i64 0, .slice none 0 0, .int .i64 0, .slice none 0 0] 26)) = W0 at x0 hz0 GC GB GZ ⊢
  clear hW0
  refine (check_any _ c _ (hc'.ext x0) hs).mono ?_
  rintro e w1 ⟨rfl, hx1⟩
  have GC1 := (Below.block hx1 _ (by omega)).trans GC
  have GB1 := (Below.block hx1 _ (by omega)).trans GB
  have GZ1 := (Below.block hx1 _ (by omega)).trans GZ
  have X1 := x0.trans hx1
  have hz1 := hx1.size
  clear GC GB GZ x0 hx1
  obtain ⟨K, hK⟩ : ∃ K, checkC c = K := ⟨_, rfl⟩
  have HK := hid hK
  rw [hK]
  rw [hK] at HT2
  clear hK
  by_cases k0 : K ≠ 0
  · have HTK : Hid (T = K) := by
      have h := HT2.out
      rw [if_pos k0] at h
      exact h.symm
    have HTN : Hid (T ≠ 0) := by unfold Hid; rw [HTK.out]; exact k0
    have z0 := block_cell (i := 0) GZ1
    have z1 := block_cell (i := 1) GZ1
    have z2 := block_cell (i := 2) GZ1
    have z3 := block_cell (i := 3) GZ1
    have f0 := block_free (i := 0) GZ1
    have f1 := block_free (i := 1) GZ1
    have f2 := block_free (i := 2) GZ1
    have f3 := block_free (i := 3) GZ1
    simp only [List.getElem?_toArray, List.getElem?_cons_zero, List.getElem?_cons_succ] at z0 z1 z2 z3
    clear GC1 GB1 GZ1
    go_wp2
    refine bodyPost_ret (v := .tuple #[zeroCs, .int .i64 T]) ?_ rfl ⟨zeroCs, by rw [HT.out], (((X1.setCell (by simp; omega) _).setCell (by simp; omega) _).setCell (by simp; omega) _).setCell (by simp; omega) _, fun _ => rfl, fun h => absurd (HT.out.symm.trans h) HTN.out⟩
    rw [results_cell_tmp rfl]
    simp only [HTK.out]
    go_simp
    rfl
  have h2 := HT2.out
  rw [if_neg k0] at h2
  clear HT2
  have HT2 : Hid (witE c.wi (W.take 0) (W.drop 0) = T) := h2
  have e0 : K = 0 := by simpa using k0
  have hck := HK.out.trans e0
  obtain ⟨wi0, wi6⟩ := checkC_wi hck
  have HCK := hid hck
  subst e0
  clear h2 k0 hck
  have b0 := block_cell (i := 0) GB1
  simp only [List.getElem?_toArray, List.getElem?_cons_zero] at b0
  have HGC := hid GC1
  have HGB := hid GB1
  have HGZ := hid GZ1
  clear GC1 GB1 GZ1
  go_wp2
  clear b0
  go_loopw [17] (fun i wr => ∃ k : Nat, i = .int .i64 (k : Int) ∧ k ≤ W.length ∧ Hid (witE c.wi (W.take k) (W.drop k) = T) ∧ Ext w1 wr) (fun i _ => W.length - (intOf i).toNat)
  case atStart => exact ⟨0, rfl, Nat.zero_le _, HT2, Ext.refl _⟩
  case round =>
    obtain ⟨k, rfl, hk, HT2, hx⟩ := hrel
    have GC2 := (Below.block hx _ (by omega)).trans HGC.out
    have GB2 := (Below.block hx _ (by omega)).trans HGB.out
    have GZ2 := (Below.block hx _ (by omega)).trans HGZ.out
    have X2 := X1.trans hx
    have hz2 := hx.size
    by_cases hlt : k < W.length
    · have hlt' : (k : Int) < (W.length : Int) := by omega
      obtain ⟨n, hn⟩ := get_of_lt W k hlt
      obtain ⟨b, off, rfl, e0⟩ := Ints.at_ (Ints.ext hA X2) hn
      have hI2 : Ints wr (some ⟨b, off, none⟩) (W.take k) := by
        refine Rd.pre_ (ys := (W.drop k).map (.int .i64)) ?_
        rw [← List.map_append, List.take_append_drop]; exact Ints.ext hA X2
      have HD : Hid ((if !inB n 0 (c.wi - 1) then 1 else if memI n (W.take k) then 5 else witE c.wi (W.take (k + 1)) (W.drop (k + 1))) = T) := by
        unfold Hid
        have h := HT2.out
        obtain ⟨h1, h2⟩ := List.getElem?_eq_some_iff.1 hn
        rw [List.drop_eq_getElem_cons h1, h2] at h
        rw [List.take_succ_eq_append_getElem h1, h2]
        exact h
      have htl : (W.take k).length = k := by simp; omega
      have c0 := block_cell (i := 0) GC2
      have c1' := block_cell (i := 1) GC2
      have c2' := block_cell (i := 2) GC2
      have c3 := block_cell (i := 3) GC2
      simp only [List.getElem?_toArray, List.getElem?_cons_zero, List.getElem?_cons_succ] at c0 c1' c2' c3
      have KW := witness_any _ c n wr (hc'.ext X2) wi0 wi6
      have HGC2 := hid GC2
      have HGB2 := hid GB2
      have HGZ2 := hid GZ2
      clear HT2 hn GC2 GB2 GZ2
      go_wp2_with fail
      refine KW.mono ?_
      rintro e w3 ⟨rfl, hx3⟩
      have GC3 := (Below.block hx3 _ (by omega)).trans HGC2.out
      have GB3 := (Below.block hx3 _ (by omega)).trans HGB2.out
      have GZ3 := (Below.block hx3 _ (by omega)).trans HGZ2.out
      have X3 := X2.trans hx3
      have hz3 := hx3.size
      cases hin : inB n 0 (c.wi - 1)
      · have HTK : Hid (T = 1) := by
          have h := HD.out
          rw [hin] at h
          exact h.symm
        have HTN : Hid (T ≠ 0) := by unfold Hid; rw [HTK.out]; decide
        clear KW HD hin c0 c1' c2' c3
        have z0 := block_cell (i := 0) GZ3
        have z1 := block_cell (i := 1) GZ3
        have z2 := block_cell (i := 2) GZ3
        have z3 := block_cell (i := 3) GZ3
        have f0 := block_free (i := 0) GZ3
        have f1 := block_free (i := 1) GZ3
        have f2 := block_free (i := 2) GZ3
        have f3 := block_free (i := 3) GZ3
        simp only [List.getElem?_toArray, List.getElem?_cons_zero, List.getElem?_cons_succ] at z0 z1 z2 z3
        go_wp2
        refine bodyPost_ret (v := .tuple #[zeroCs, .int .i64 T]) ?_ rfl ⟨zeroCs, by rw [HT.out], (((X3.setCell (by simp; omega) _).setCell (by simp; omega) _).setCell (by simp; omega) _).setCell (by simp; omega) _, fun _ => rfl, fun h => absurd (HT.out.symm.trans h) HTN.out⟩
        rw [results_cell_tmp rfl]
        simp only [HTK.out]
        go_simp
        rfl
      · have HD2 : Hid ((if memI n (W.take k) then 5 else witE c.wi (W.take (k + 1)) (W.drop (k + 1))) = T) := by
          have h := HD.out
          rw [hin] at h
          exact h
        have b0 := block_cell (i := 0) GB3
        simp only [List.getElem?_toArray, List.getElem?_cons_zero] at b0
        have KI := containsI_any n (some ⟨b, off, none⟩) k0 (W.take k) w3 (hI2.ext hx3) (by omega)
        rw [htl] at KI
        have hkc : (k : Int) ≤ (k0 : Int) := by omega
        have hk0' : ¬ (k : Int) < 0 := by omega
        have HGC3 := hid GC3
        have HGB3 := hid GB3
        have HGZ3 := hid GZ3
        clear KW HD hin c0 c1' c2' c3 hI2 htl GC3 GB3 GZ3
        go_wp2_with fail
        refine KI.mono ?_
        rintro e w4 ⟨rfl, rfl⟩
        cases hm : memI n (W.take k)
        · have HT3 : Hid (witE c.wi (W.take (k + 1)) (W.drop (k + 1)) = T) := by
            have h := HD2.out
            rw [hm] at h
            exact h
          clear KI HD2 hm b0
          go_wp2
          go_roundw
          case rel => exact ⟨k + 1, by go_num, by omega, HT3, hx.trans hx3⟩
          case measure => simp [intOf]; omega
        · have HTK : Hid (T = 5) := by
            have h := HD2.out
            rw [hm] at h
            exact h.symm
          have HTN : Hid (T ≠ 0) := by unfold Hid; rw [HTK.out]; decide
          have GZ3 := HGZ3.out
          clear KI HD2 hm b0
          have z0 := block_cell (i := 0) GZ3
          have z1 := block_cell (i := 1) GZ3
          have z2 := block_cell (i := 2) GZ3
          have z3 := block_cell (i := 3) GZ3
          have f0 := block_free (i := 0) GZ3
          have f1 := block_free (i := 1) GZ3
          have f2 := block_free (i := 2) GZ3
          have f3 := block_free (i := 3) GZ3
          simp only [List.getElem?_toArray, List.getElem?_cons_zero, List.getElem?_cons_succ] at z0 z1 z2 z3
          go_wp2
          refine bodyPost_ret (v := .tuple #[zeroCs, .int .i64 T]) ?_ rfl ⟨zeroCs, by rw [HT.out], (((X3.setCell (by simp; omega) _).setCell (by simp; omega) _).setCell (by simp; omega) _).setCell (by simp; omega) _, fun _ => rfl, fun h => absurd (HT.out.symm.trans h) HTN.out⟩
          rw [results_cell_tmp rfl]
          simp only [HTK.out]
          go_simp
          rfl
    · have hlt' : ¬ (k : Int) < (W.length : Int) := by omega
      have HTK : Hid (T = 0) := by
        have h := HT2.out
        rw [List.drop_eq_nil_of_le (by omega)] at h
        exact h.symm
      obtain ⟨l1, l2, l3⟩ := manyOK_len (checkC_ok HCK.out).1
      have HL3 := hid l3
      have c0 := block_cell (i := 0) GC2
      have c1' := block_cell (i := 1) GC2
      have c2' := block_cell (i := 2) GC2
      have c3 := block_cell (i := 3) GC2
      simp only [List.getElem?_toArray, List.getElem?_cons_zero, List.getElem?_cons_succ] at c0 c1' c2' c3
      clear HT2 l3
      go_wp2_with fail
      refine (clone_bound A1 c1 c.bs wr (hB.ext X2) (by omega)).mono ?_
      rintro e w3 ⟨A5, c5, rfl, o5, -, hx3⟩
      have GC3 := (Below.block hx3 _ (by omega)).trans GC2
      have GB3 := (Below.block hx3 _ (by omega)).trans GB2
      have GZ3 := (Below.block hx3 _ (by omega)).trans GZ2
      have X3 := X2.trans hx3
      have hz3 := hx3.size
      clear GC2 GB2 GZ2 c0 c1' c2' c3
      have fc1 := block_free (i := 1) GC3
      have c0 := block_cell (i := 0) GC3
      have c1' := block_cell (i := 1) GC3
      have c2' := block_cell (i := 2) GC3
      have c3 := block_cell (i := 3) GC3
      simp only [List.getElem?_toArray, List.getElem?_cons_zero, List.getElem?_cons_succ] at c0 c1' c2' c3
      go_wp2_with fail
      have xs4 : BelS (fun i => i = w.heap.size) w3 (w3.setCell ⟨w.heap.size, 1, none⟩ (.slice A5 c.bs.length c5)) := (BelS.refl _ _).setCell (S := fun i => i = w.heap.size) ⟨w.heap.size, 1, none⟩ _ rfl
      have GC4 : (w3.setCell ⟨w.heap.size, 1, none⟩ (.slice A5 c.bs.length c5)).heap[w.heap.size]? = some (.cells #[.int .i64 c.ev, .slice A5 c.bs.length c5, .int .i64 c.wi, .slice A2 c.cl.length c2] 26 (0, 0)) := by
        have := heap_set GC3 (i := 1) (.slice A5 c.bs.length c5)
        simpa using this
      have GZ4 := xs4.heap GZ3 (by show ¬ w.heap.size + 1 + 1 = w.heap.size; omega)
      have GB4 := xs4.heap GB3 (by show ¬ w.heap.size + 1 = w.heap.size; omega)
      have O4 := hid (xs4.own o5 (fun k e h => by have h2 := (o5.lt k e).1; omega))
      have X4 : Ext w (w3.setCell ⟨w.heap.size, 1, none⟩ (.slice A5 c.bs.length c5)) := X3.setCell (Nat.le_refl _) _
      have z4 := xs4.size
      generalize hW4 : w3.setCell ⟨w.heap.size, 1, none⟩ (.slice A5 c.bs.length c5) = W4 at xs4 GC4 GZ4 GB4 O4 X4 z4 ⊢
      clear hW4 xs4 GC3 GZ3 GB3 X3 fc1 c0 c1' c2' c3 o5
      obtain ⟨xs0, hR0, hC0⟩ := hC.ext X4
      refine (twin_any A2 c2 c.cl W4 xs0 hR0 hC0 (by omega) (fun x hx => by have := HL3.out x hx; omega)).mono ?_
      rintro e w6 ⟨A6, c6, ys, rfl, o6, hcl, -, hx6⟩
      have GC6 := (Below.block hx6 _ (by omega)).trans GC4
      have GZ6 := (Below.block hx6 _ (by omega)).trans GZ4
      have X6 := X4.trans hx6
      have hz6 := hx6.size
      have HFN := hid (believe1_fn W4 (w.heap.size + 1) A k0 W (by rw [block_cell GB4]; rfl) (Ints.ext hA X4) (by omega))
      have KD := deleteClaim_any W4.heap.size A6 c6 c.cl ys _ (fun x => !memI x.w W) W4 w6 o6 hcl HFN.out hx6.kc (Nat.le_refl _) hz6 (by omega)
      have HKD := hid KD
      have hzW : w.heap.size + 3 ≤ W4.heap.size := by omega
      have HX6 := hid hx6
      clear KD o6 hcl hR0 hC0 hx6 GC4 GZ4 GB4 X4 HFN
      go_wp2_with fail
      refine HKD.out.mono ?_
      rintro e w7 ⟨A7, c7, zs, rfl, o7, cl7, hb7⟩
      have hfe : (c.cl.filter fun x => !(!memI x.w W)) = (c.believe fun x => memI x W).cl := by
        unfold Cs.believe
        exact List.filter_congr fun x _ => by simp
      rw [hfe] at o7 cl7 ⊢
      have HBE : Hid ((c.believe fun x => memI x W).ev = c.ev ∧ (c.believe fun x => memI x W).bs = c.bs ∧ (c.believe fun x => memI x W).wi = c.wi) := ⟨rfl, rfl, rfl⟩
      generalize hd : (c.believe fun x => memI x W) = d at *
      have HDD := hid hd
      clear hfe hd HKD
      have GC7 := (Below.block hb7 _ (by omega)).trans GC6
      have GZ7 := (Below.block hb7 _ (by omega)).trans GZ6
      have X7 : Ext w w7 := Below.trans X6 (Below.mono hb7 (by omega))
      have E47 : Ext W4 w7 := Below.trans HX6.out hb7
      have O7 := hid (own_below O4.out E47)
      have OC := hid o7
      have HCL := hid cl7
      have hz7 := E47.size
      have hg4 := O4.out.lt
      clear hb7 o7 cl7 E47
      have c0 := block_cell (i := 0) GC7
      have c1' := block_cell (i := 1) GC7
      have c2' := block_cell (i := 2) GC7
      have c3 := block_cell (i := 3) GC7
      have fc3 := block_free (i := 3) GC7
      simp only [List.getElem?_toArray, List.getElem?_cons_zero, List.getElem?_cons_succ] at c0 c1' c2' c3
      have z0 := block_cell (i := 0) GZ7
      have z1 := block_cell (i := 1) GZ7
      have z2 := block_cell (i := 2) GZ7
      have z3 := block_cell (i := 3) GZ7
      have f0 := block_free (i := 0) GZ7
      have f1 := block_free (i := 1) GZ7
      have f2 := block_free (i := 2) GZ7
      have f3 := block_free (i := 3) GZ7
      simp only [List.getElem?_toArray, List.getElem?_cons_zero, List.getElem?_cons_succ] at z0 z1 z2 z3
      have nz : w.heap.size + 1 + 1 ≠ w.heap.size := by omega
      clear GC6 GZ6 X6 GC7 GZ7
      go_wp2
      have xb8 : BelS (fun i => i = w.heap.size ∨ i = w.heap.size + 1 + 1) w7 (((((w7.setCell ⟨w.heap.size, 3, none⟩ (.slice A7 d.cl.length c7)).setCell ⟨w.heap.size + 1 + 1, 0, none⟩ (.int .i64 c.ev)).setCell ⟨w.heap.size + 1 + 1, 1, none⟩ (.slice A5 c.bs.length c5)).setCell ⟨w.heap.size + 1 + 1, 2, none⟩ (.int .i64 c.wi)).setCell ⟨w.heap.size + 1 + 1, 3, none⟩ (.slice A7 d.cl.length c7)) :=
        (((((BelS.refl _ w7).setCell (S := fun i => i = w.heap.size ∨ i = w.heap.size + 1 + 1) ⟨w.heap.size, 3, none⟩ _ (.inl rfl)).setCell ⟨w.heap.size + 1 + 1, 0, none⟩ _ (.inr rfl)).setCell ⟨w.heap.size + 1 + 1, 1, none⟩ _ (.inr rfl)).setCell ⟨w.heap.size + 1 + 1, 2, none⟩ _ (.inr rfl)).setCell ⟨w.heap.size + 1 + 1, 3, none⟩ _ (.inr rfl)
      have X8 : Ext w (((((w7.setCell ⟨w.heap.size, 3, none⟩ (.slice A7 d.cl.length c7)).setCell ⟨w.heap.size + 1 + 1, 0, none⟩ (.int .i64 c.ev)).setCell ⟨w.heap.size + 1 + 1, 1, none⟩ (.slice A5 c.bs.length c5)).setCell ⟨w.heap.size + 1 + 1, 2, none⟩ (.int .i64 c.wi)).setCell ⟨w.heap.size + 1 + 1, 3, none⟩ (.slice A7 d.cl.length c7)) := ((((X7.setCell (Nat.le_refl _) _).setCell (by simp; omega) _).setCell (by simp; omega) _).setCell (by simp; omega) _).setCell (by simp; omega) _
      have O8 := own_base (base' := w.heap.size) (xb8.own O7.out (fun k e h => by have := (O7.out.lt k e).1; omega)) (by omega)
      have OC8 := own_base (base' := w.heap.size) (xb8.own OC.out (fun k e h => by have := (OC.out.lt k e).1; omega)) (by omega)
      have HC8 := (HCL.out.keep (fun v n zs ho => xb8.own ho (fun k e h => by have := (ho.lt k e).1; omega))).base (B' := w.heap.size) (by omega)
      refine bodyPost_ret (v := .tuple #[.agg #[.int .i64 c.ev, .slice A5 c.bs.length c5, .int .i64 c.wi, .slice A7 d.cl.length c7], .int .i64 T]) ?_ rfl ⟨.agg #[.int .i64 c.ev, .slice A5 c.bs.length c5, .int .i64 c.wi, .slice A7 d.cl.length c7], by rw [HT.out], X8, fun h => absurd (HT.out.symm ▸ HTK.out) h, fun _ => ?_⟩
      · rw [results_cell_tmp rfl]
        simp only [HTK.out]
        go_simp
      · rw [HDD.out]
        exact ⟨A5, c5, A7, c7, zs, by rw [HBE.out.1, HBE.out.2.1, HBE.out.2.2], by rw [HBE.out.2.1]; exact O8, OC8, HC8⟩
end Go.Proofs.Ytgnjhaomlbkgcaa

namespace Go.Proofs.Ytgnjhaomlbkgcaa
open Go Go.RowKit
set_option linter.unusedVariables false
set_option linter.unusedSimpArgs false

def nilC : Cs := ⟨0, [], 0, []⟩
/-- The case with a bound more, and that with some witnesses alone; nothing where there is an error. -/
def toldK (c : Cs) (b : Bd) : Cs := if toldBC c b = 0 then c.add b else nilC
def belK (c : Cs) (W : List Int) : Cs := if believeC c W = 0 then c.believe (fun x => memI x W) else nilC
def allK (c : Cs) : List Bd := if checkC c = 0 then c.all else []
theorem nil_fresh (w : World) (B : Nat) : FreshCs w B zeroCs nilC := ⟨none, 0, none, 0, [], rfl, own_nil _ _ _ _, own_nil _ _ _ _, trivial⟩
theorem told_u {c : Cs} (h0 : checkC c = 0) (b : Bd) : toldBC c b = if badR c.ev [b] ≠ 0 then badR c.ev [b] else if c.bs.length = 20 then 2 else 0 := by
  unfold toldBC bdsC badR
  rw [if_neg (by simp [h0])]
  have hd : diffOK [b] = decide (b.f ≠ b.t) := by
    unfold diffOK
    simp only [List.all_cons, List.all_nil, Bool.and_true]
    rw [Bool.eq_iff_iff]
    simp
  rw [hd]
  cases limOK [b] <;> cases evOK c.ev [b] <;> by_cases h : b.f = b.t <;> simp [h]
theorem told_call (v : Value) (c : Cs) (b : Bd) (w : World) (hc : CsR w v c) (hs : c.sized) : Calls Try.prog 50 #[v, b.val] w fun e w' => ∃ r, e = .returned (.tuple #[r, .int .i64 (toldBC c b)]) ∧ Ext w w' ∧ FreshCs w' w.heap.size r (toldK c b) := by
  refine (toldb_any v c b w hc hs).mono ?_
  rintro e w' ⟨r, rfl, hx, h1, h2⟩
  refine ⟨r, rfl, hx, ?_⟩
  unfold toldK
  by_cases h : toldBC c b = 0
  · rw [if_pos h]; exact h2 h
  · rw [if_neg h, h1 h]; exact nil_fresh _ _
theorem bel_call (v : Value) (c : Cs) (A : Option Addr) (k0 : Nat) (W : List Int) (w : World) (hc : CsR w v c) (hs : c.sized) (hA : Ints w A W) (hl : W.length ≤ 1000000) (hcap : W.length ≤ k0) : Calls Try.prog 66 #[v, .slice A W.length k0] w fun e w' => ∃ r, e = .returned (.tuple #[r, .int .i64 (believeC c W)]) ∧ Ext w w' ∧ FreshCs w' w.heap.size r (belK c W) := by
  refine (believe_any v c A k0 W w hc hs hA hl hcap).mono ?_
  rintro e w' ⟨r, rfl, hx, h1, h2⟩
  refine ⟨r, rfl, hx, ?_⟩
  unfold belK
  by_cases h : believeC c W = 0
  · rw [if_pos h]; exact h2 h
  · rw [if_neg h, h1 h]; exact nil_fresh _ _
theorem all_call (v : Value) (c : Cs) (w : World) (hc : CsR w v c) (hs : c.sized) : Calls Try.prog 23 #[v] w fun e w' => ∃ A' k', e = .returned (.tuple #[.slice A' (allK c).length k', .int .i64 (checkC c)]) ∧ Ext w w' ∧ w'.ownsRow w.heap.size 35 3 (.slice A' (allK c).length k') (allK c).length (bcells (allK c)) := by
  refine (allw_any v c w hc hs).mono ?_
  rintro e w' ⟨r, rfl, hx, h1, h2⟩
  unfold allK
  by_cases h : checkC c = 0
  · obtain ⟨A', k', rfl, ho⟩ := h1 h
    rw [if_pos h]
    exact ⟨A', k', rfl, hx, ho⟩
  · obtain rfl := h2 h
    rw [if_neg h]
    exact ⟨none, 0, rfl, hx, own_nil _ _ _ _⟩
theorem believe_sized {c : Cs} (hs : c.sized) (W : List Int) : (belK c W).sized := by
  obtain ⟨h1, h2, h3⟩ := hs
  unfold belK
  split
  · exact ⟨h1, Nat.le_trans (List.length_filter_le _ _) h2, fun x hx => h3 x (List.mem_filter.1 hx).1⟩
  · exact ⟨by simp [nilC], by simp [nilC], fun x hx => by simp [nilC] at hx⟩
theorem told_sized {c : Cs} (hs : c.sized) (b : Bd) : (toldK c b).sized := by
  obtain ⟨h1, h2, h3⟩ := hs
  unfold toldK
  split
  · rename_i h
    have h0 : checkC c = 0 := by
      by_cases h0 : checkC c = 0
      · exact h0
      · unfold toldBC at h; rw [if_pos h0] at h; exact absurd h h0
    have := (manyOK_parts (checkC_ok h0).1).2.2.1
    exact ⟨by simp [Cs.add]; omega, h2, h3⟩
  · exact ⟨by simp [nilC], by simp [nilC], fun x hx => by simp [nilC] at hx⟩
/-- Block B holds a case. -/
def CaseAt2 (w : World) (B : Nat) (c : Cs) : Prop := ∃ A1 c1 A2 c2, w.heap[B]? = some (.cells #[.int .i64 c.ev, .slice A1 c.bs.length c1, .int .i64 c.wi, .slice A2 c.cl.length c2] 26 (0, 0)) ∧ Bounds w A1 c.bs ∧ Claims w A2 c.cl
theorem CaseAt2.ext {w w' : World} {B : Nat} {c : Cs} (h : CaseAt2 w B c) (hx : Ext w w') : CaseAt2 w' B c := by
  obtain ⟨A1, c1, A2, c2, h1, h2, h3⟩ := h
  exact ⟨A1, c1, A2, c2, (Below.block hx _ (Array.getElem?_eq_some_iff.1 h1).1).trans h1, h2.ext hx, h3.ext hx⟩
theorem nil_at {w : World} {B : Nat} (h : w.heap[B]? = some (.cells #[.int .i64 0, .slice none 0 0, .int .i64 0, .slice none 0 0] 26 (0, 0))) : CaseAt2 w B nilC := ⟨none, 0, none, 0, h, Bounds.nil _ _, Claims.nil _ _⟩
theorem told_M {c : Cs} {b : Bd} {W : List Int} {M : Int} (h : checkC c = M) (h0 : M ≠ 0) : toldBC c b = M ∧ believeC c W = M ∧ toldK c b = nilC ∧ belK c W = nilC ∧ allK c = [] := by
  have e1 : toldBC c b = M := by unfold toldBC; rw [h, if_pos h0]
  have e2 : believeC c W = M := by unfold believeC; rw [h, if_pos h0]
  refine ⟨e1, e2, ?_, ?_, ?_⟩
  · unfold toldK; rw [e1, if_neg h0]
  · unfold belK; rw [e2, if_neg h0]
  · unfold allK; rw [h, if_neg h0]
/-- What stands when some witnesses are gone over. -/
def marks (l : List Int) : Nat → Bool := fun x => memI (x : Int) l
theorem marks_upd {l : List Int} {n : Nat} : upd1 (marks l) n true = marks (l ++ [(n : Int)]) := by
  funext x
  unfold upd1 marks memI
  rw [List.any_append]
  by_cases h : x = n
  · subst h; simp
  · rw [if_neg h]
    have : ((x : Int) == (n : Int)) = false := by
      rw [beq_eq_false_iff_ne]; omega
    simp [this]
theorem marks_nil : marks [] = fun _ => false := rfl
/-- A case is stored into a block that held a case. -/
theorem case_store {w : World} {B : Nat} {T : TypeId} {u0 u1 u2 u3 : Value} (v0 v1 v2 v3 : Value) (h : w.heap[B]? = some (.cells #[u0, u1, u2, u3] T (0, 0))) : ((((w.setCell ⟨B, 0, none⟩ v0).setCell ⟨B, 1, none⟩ v1).setCell ⟨B, 2, none⟩ v2).setCell ⟨B, 3, none⟩ v3).heap[B]? = some (.cells #[v0, v1, v2, v3] T (0, 0)) := by
  simp only [World.setCell, Array.getElem?_modify, h, if_true, Option.map_some]
  simp
theorem case_set1 {w : World} {B : Nat} {T : TypeId} {u0 u1 u2 u3 : Value} (v1 : Value) (h : w.heap[B]? = some (.cells #[u0, u1, u2, u3] T (0, 0))) : (w.setCell ⟨B, 1, none⟩ v1).heap[B]? = some (.cells #[u0, v1, u2, u3] T (0, 0)) := by
  simp only [World.setCell, Array.getElem?_modify, h, if_true, Option.map_some]
  simp
theorem case_set3 {w : World} {B : Nat} {T : TypeId} {u0 u1 u2 u3 : Value} (v3 : Value) (h : w.heap[B]? = some (.cells #[u0, u1, u2, u3] T (0, 0))) : (w.setCell ⟨B, 3, none⟩ v3).heap[B]? = some (.cells #[u0, u1, u2, v3] T (0, 0)) := by
  simp only [World.setCell, Array.getElem?_modify, h, if_true, Option.map_some]
  simp
theorem belS_store {w : World} {B : Nat} (v0 v1 v2 v3 : Value) {S : Nat → Prop} (hS : S B) : BelS S w ((((w.setCell ⟨B, 0, none⟩ v0).setCell ⟨B, 1, none⟩ v1).setCell ⟨B, 2, none⟩ v2).setCell ⟨B, 3, none⟩ v3) :=
  ((((BelS.refl S w).setCell ⟨B, 0, none⟩ v0 hS).setCell ⟨B, 1, none⟩ v1 hS).setCell ⟨B, 2, none⟩ v2 hS).setCell ⟨B, 3, none⟩ v3 hS
theorem belS_below {S : Nat → Prop} {w0 a b : World} (h : BelS S w0 a) (k : Below w0.heap.size a b) : BelS S w0 b := ⟨h.1.trans (Below.mono k (Nat.zero_le _)), fun i hi hn => (Below.block k i hi).trans (h.2 i hi hn)⟩
theorem filter_take {P : Cl → Bool} {l : List Cl} {k : Nat} {x : Cl} (h : l[k]? = some x) : (l.take (k + 1)).filter P = (l.take k).filter P ++ if P x then [x] else [] := by
  rw [take_next h, List.filter_append]
  congr 1
  cases hp : P x <;> simp [hp]
end Go.Proofs.Ytgnjhaomlbkgcaa

namespace Go.Proofs.Ytgnjhaomlbkgcaa
open Go Go.RowKit
set_option linter.unusedVariables false
set_option linter.unusedSimpArgs false

/-- What lies below B stays; what is no row of bounds stays; rows of bounds keep their sizes. -/
def CK (B : Nat) (w w' : World) : Prop := Below B w w' ∧ (∀ (k : Nat) (cs : Array Value) (T : TypeId), T ≠ 35 → w.heap[k]? = some (.cells cs T (0, 0)) → w'.heap[k]? = some (.cells cs T (0, 0))) ∧
  ∀ (k : Nat) (cs : Array Value), w.heap[k]? = some (.cells cs 35 (0, 0)) → ∃ cs', w'.heap[k]? = some (.cells cs' 35 (0, 0)) ∧ cs'.size = cs.size
theorem CK.refl (B : Nat) (w : World) : CK B w w := ⟨Below.refl _ _, fun _ _ _ _ h => h, fun _ cs h => ⟨cs, h, rfl⟩⟩
theorem CK.trans {B : Nat} {a b c : World} (h : CK B a b) (k : CK B b c) : CK B a c := by
  refine ⟨h.1.trans k.1, fun i cs T ht hi => k.2.1 i cs T ht (h.2.1 i cs T ht hi), fun i cs hi => ?_⟩
  obtain ⟨c1, e1, s1⟩ := h.2.2 i cs hi
  obtain ⟨c2, e2, s2⟩ := k.2.2 i c1 e1
  exact ⟨c2, e2, by omega⟩
theorem CK.of_ext {B : Nat} {a b : World} (h : Ext a b) (hB : B ≤ a.heap.size) : CK B a b :=
  ⟨Below.mono h hB, fun i cs T _ hi => (Below.block h i (Array.getElem?_eq_some_iff.1 hi).1).trans hi, fun i cs hi => ⟨cs, (Below.block h i (Array.getElem?_eq_some_iff.1 hi).1).trans hi, rfl⟩⟩
/-- A row of bounds of one's own, whatever it holds. -/
def OwnR (w : World) (B : Nat) (A : Option Addr) (n c : Nat) : Prop := ∃ zs, w.ownsRow B 35 3 (.slice A n c) n zs
theorem OwnR.ck {w w' : World} {B B' : Nat} {A : Option Addr} {n c : Nat} (h : OwnR w B A n c) (k : CK B' w w') : OwnR w' B A n c := by
  obtain ⟨zs, hl, h⟩ := h
  rcases h with ⟨e, hn⟩ | ⟨g, cap, cur, e, hb, hg, hnc, hcm, hcs, ht⟩
  · subst hn
    exact ⟨zs, hl, .inl ⟨e, rfl⟩⟩
  · obtain ⟨cs', e1, s1⟩ := k.2.2 g cur hg
    refine ⟨cs'.toList.take (n * 3), ?_, .inr ⟨g, cap, cs', e, hb, e1, hnc, hcm, by omega, rfl⟩⟩
    rw [List.length_take, Array.length_toList, s1, hcs]
    have : n * 3 ≤ cap * 3 := Nat.mul_le_mul_right 3 hnc
    omega
theorem OwnR.mono {w : World} {B B' : Nat} {A : Option Addr} {n c : Nat} (h : OwnR w B A n c) (hb : B' ≤ B) : OwnR w B' A n c := by
  obtain ⟨zs, h⟩ := h
  exact ⟨zs, own_base h hb⟩
theorem own_ck {w w' : World} {B B' n : Nat} {v : Value} {xs : List Value} (h : w.ownsRow B 37 2 v n xs) (k : CK B' w w') : w'.ownsRow B 37 2 v n xs := by
  refine ⟨h.1, ?_⟩
  rcases h.2 with h | ⟨g, cap, cur, e, hb, hg, r⟩
  · exact .inl h
  · exact .inr ⟨g, cap, cur, e, hb, k.2.1 g cur _ (by decide) hg, r⟩
theorem clear_row {w : World} {B n c : Nat} {A : Option Addr} (h : OwnR w B A n c) : ∃ w', (∀ ty, (Builtin.clear_ #[23] ty #[.slice A n c]).run Try.prog w = .ok (.tuple #[]) w') ∧ CK B w w' := by
  obtain ⟨zs, ho⟩ := h
  have hu := Try.underlying23
  have hz : ∀ w, (zeroValue 35).run Try.prog w = .ok (.agg #[.int .i64 0, .int .i64 0, .int .i64 0]) w := fun w => by kernel_rfl
  rcases Nat.eq_zero_or_pos n with hn | hn
  · subst hn
    refine ⟨w, fun ty => ?_, CK.refl _ _⟩
    cases A <;> simp [Builtin.clear_, run_underlying hu, hz, Builtin.zeroCells, storeCells]
  · rcases ho.2 with ⟨_, h⟩ | ⟨g, cap, cur, e, hb, hg, hnc, hcm, hcs, ht⟩
    · omega
    · cases e
      obtain ⟨w', hcl, hB, ys, hys, hO⟩ := run_clear_own (P := Try.prog) (sz := 3) w 23 35 35 (.agg #[.int .i64 0, .int .i64 0, .int .i64 0]) hu hz rfl (by intro v hv; simp [Value.cells] at hv; rcases hv with rfl | rfl | rfl <;> rfl) ho 0 c hn (by decide)
      simp only [Nat.zero_mul, Nat.sub_zero] at hcl
      refine ⟨w', hcl, ?_, fun k cs T ht hk => hB.heap hk (fun e => ?_), fun k cs hk => ?_⟩
      · obtain ⟨⟨b1, b2, b3, b4, _⟩, b5⟩ := hB
        exact ⟨b1, b2, b3, b4, fun i hi => b5 i (by have := (Array.getElem?_eq_some_iff.1 hg).1; omega) (by omega)⟩
      · subst e
        rw [hg] at hk
        cases hk
        exact ht rfl
      · by_cases e : k = g
        · subst e
          rw [hg] at hk
          cases hk
          rcases hO.2 with ⟨h, _⟩ | ⟨g2, cap2, cur2, e2, _, hg2, _, _, hcs2, _⟩
          · cases h
          · cases e2
            exact ⟨cur2, hg2, by omega⟩
        · exact ⟨cs, hB.heap hk e, rfl⟩
end Go.Proofs.Ytgnjhaomlbkgcaa
