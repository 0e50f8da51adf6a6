/- What the walk of WarnWho asks of the plain side, and its calls in one form. -/
import Derived.Test.YtgnjhaomlbkgcaaBase
import Derived.Test.YtgnjhaomlbkgcaaProg
import Derived.Test.YtgnjhaomlbkgcaaWMadeP
import Derived.Test.YtgnjhaomlbkgcaaWAsk2
import Derived.Test.YtgnjhaomlbkgcaaWLiars2
import Derived.Test.YtgnjhaomlbkgcaaWRing
import Derived.Test.YtgnjhaomlbkgcaaWMade
import Derived.Laws.ResultCell
import Derived.Test.YtgnjhaomlbkgcaaWBelP
import Derived.Test.YtgnjhaomlbkgcaaRef3
import Derived.Test.YtgnjhaomlbkgcaaRowsA
import Derived.Test.YtgnjhaomlbkgcaaWOpen
import Derived.Test.YtgnjhaomlbkgcaaRegion3
import Derived.Laws.StructEq
import Derived.Test.YtgnjhaomlbkgcaaKeep
import Derived.Test.YtgnjhaomlbkgcaaWFew
import Derived.Test.YtgnjhaomlbkgcaaWAsk
import Derived.Test.YtgnjhaomlbkgcaaRef1
namespace Go.Proofs.Ytgnjhaomlbkgcaa
open Go Go.RowKit
set_option linter.unusedVariables false
set_option linter.unusedSimpArgs false

theorem eq_drop {l m : List Int} {k : Nat} {x y : Int} (hx : l[k]? = some x) (hy : m[k]? = some y) : (l.drop k == m.drop k) = ((x == y) && (l.drop (k + 1) == m.drop (k + 1))) := by
  have h1 : k < l.length := (List.getElem?_eq_some_iff.1 hx).1
  have h2 : k < m.length := (List.getElem?_eq_some_iff.1 hy).1
  rw [List.drop_eq_getElem_cons h1, List.drop_eq_getElem_cons h2, (List.getElem?_eq_some_iff.1 hx).2, (List.getElem?_eq_some_iff.1 hy).2]
  rfl

set_option maxRecDepth 100000 in
set_option maxHeartbeats 1000000 in
theorem equal_int (A A' : Option Addr) (c c' : Nat) (l m : List Int) (w : World) (hA : Ints w A l) (hB : Ints w A' m) (hl : l.length ≤ 9223372036854775807) (hm : m.length ≤ 9223372036854775807) :
    Calls Try.prog 94 #[.slice A l.length c, .slice A' m.length c'] w fun e w' => e = .returned (.bool (l == m)) ∧ Ext w w' := by
  by_cases hlen : l.length = m.length
  · generalize hN : m.length = N at *
    have HF : Hid ((l.drop 0 == m.drop 0) = (l == m)) := rfl
    generalize hF : (l == m) = F at HF ⊢
    clear hF
    have hn1 : (l.length : Int) = N := by omega
    obtain rfl : l.length = N := hlen
    clear hn1
    have HN := hid hN
    clear hN
    go_enter Try.func94, Try.ntmps94
    go_wp2
    go_loopw [5, 13] (fun _ i wr => ∃ k : Nat, k ≤ l.length ∧ i = .int .i64 (k : Int) ∧ Ext w wr ∧ Hid ((l.drop k == m.drop k) = F)) (fun _ i _ => l.length - (intOf i).toNat)
    case atStart => exact ⟨0, Nat.zero_le _, rfl, Ext.refl _, HF⟩
    case round =>
      obtain ⟨k, hk, rfl, hx, HF⟩ := hrel
      by_cases hlt : k < l.length
      · have hlt' : (k : Int) < (l.length : Int) := by omega
        obtain ⟨x, hx1⟩ := get_of_lt l k hlt
        obtain ⟨y, hy1⟩ := get_of_lt m k (by rw [HN.out]; exact hlt)
        obtain ⟨b1, o1, rfl, g1⟩ := (hA.ext hx).at_ hx1
        obtain ⟨b2, o2, rfl, g2⟩ := (hB.ext hx).at_ hy1
        have HX : Hid (((x == y) && (l.drop (k + 1) == m.drop (k + 1))) = F) := by unfold Hid; rw [← HF.out, eq_drop hx1 hy1]
        clear HF hx1 hy1
        by_cases hxy : x = y
        · subst hxy
          have hq : (x != x) = false := by simp
          have HX2 : Hid ((l.drop (k + 1) == m.drop (k + 1)) = F) := by unfold Hid; rw [← HX.out]; simp
          go_wp2
          go_quiet (fail)
          go_wp2
          go_roundw
          case rel => exact ⟨k + 1, by omega, by go_num, hx.drewN _, HX2⟩
          case measure => simp [intOf]; omega
        · have hq : (x != y) = true := by simpa using hxy
          have HX2 : Hid (false = F) := by unfold Hid; rw [← HX.out]; simp [hxy]
          go_wp2
          go_quiet (fail)
          go_wp2
          go_ret
          exact ⟨ret_of (bool_of HX2.out), hx.drewN _⟩
      · have hlt' : ¬ (k : Int) < (l.length : Int) := by omega
        have HX2 : Hid (true = F) := by
          unfold Hid
          rw [← HF.out, List.drop_eq_nil_of_le (by omega), List.drop_eq_nil_of_le (by rw [HN.out]; omega)]; rfl
        go_wp2
        go_ret
        exact ⟨ret_of (bool_of HX2.out), hx⟩
  · have hq : ((l.length : Int) != (m.length : Int)) = true := by simp; omega
    have HF : Hid ((l == m) = false) := by
      unfold Hid
      rw [beq_eq_false_iff_ne]
      intro e; exact hlen (by rw [e])
    generalize hF : (l == m) = F at HF ⊢
    clear hF
    go_enter Try.func94, Try.ntmps94
    go_wp2
    go_ret
    exact ⟨ret_of (bool_of HF.out.symm), Ext.refl _⟩

theorem eq_int (A A' : Option Addr) (c c' : Nat) (l m : List Int) (w : World) (hA : Ints w A l) (hB : Ints w A' m) (hl : l.length ≤ 9223372036854775807) (hm : m.length ≤ 9223372036854775807) :
    Calls Try.prog 32 #[.slice A l.length c, .slice A' m.length c'] w fun e w' => e = .returned (.bool (l == m)) ∧ Ext w w' := by
  generalize hF : (l == m) = F
  have HF := hid hF
  clear hF
  go_enter Try.func32, Try.ntmps32
  go_wp2_with fail
  refine (equal_int A A' c c' l m w hA hB hl hm).mono ?_
  rw [HF.out]
  rintro e w1 ⟨rfl, hb⟩
  go_wp2
  go_ret
  exact ⟨rfl, hb⟩
end Go.Proofs.Ytgnjhaomlbkgcaa

namespace Go.Proofs.Ytgnjhaomlbkgcaa
open Go Go.RowKit
set_option linter.unusedVariables false
set_option linter.unusedSimpArgs false

def hornC (l : List Cl) : Cs := ⟨4, [⟨0, 1, 30⟩, ⟨1, 0, 0⟩, ⟨1, 2, 6⟩, ⟨2, 1, -2⟩, ⟨0, 3, 50⟩, ⟨3, 0, -40⟩], 2, l⟩
def lieL : List Cl := [⟨0, [⟨1, 0, -50⟩]⟩]
def tru (a b c d : Int) : Nat → Int := fun k => match k with | 0 => a | 1 => b | 2 => c | _ => d
theorem gap_eq {tf : Int → Bool} {c : Cs} {t : Nat → Int} (h0 : checkC c = 0) (ht : TruthOf (belL tf c) t) {a b : Nat} (ha : a < 8) (hb : b < 8) {l : List Bd} (hr : Row (belL tf c) a b l) (hs : sumW l = t b - t a) : gapsM tf c a b = t b - t a := by
  have h1 := gap_le h0 ht.fine ha hb hr
  have h2 := ht.gap h0 ha hb (gap_lt_far h0 ht.fine ha hb hr)
  omega
theorem horn_check (l : List Cl) (h : l = [] ∨ l = lieL) : checkC (hornC l) = 0 := by
  rcases h with rfl | rfl <;> decide
theorem horn_truth {t : Nat → Int} (h : ∀ x ∈ (hornC []).bs, t x.t.toNat ≤ t x.f.toNat + x.m) : TruthOf (belL allT (hornC [])) t := by
  rw [belL_all]
  intro x hx
  exact h x (by simpa [Cs.all, hornC] using hx)
theorem horn_t1 : TruthOf (belL allT (hornC [])) (tru 0 30 36 40) := horn_truth (by decide)
theorem horn_t2 : TruthOf (belL allT (hornC [])) (tru 0 0 2 50) := horn_truth (by decide)
theorem horn_row {a b : Nat} {l : List Bd} (hm : ∀ x ∈ l, x ∈ (hornC []).bs) (hc : chn a l) (he : endW a l = b) : Row (belL allT (hornC [])) a b l := by
  rw [belL_all]
  exact ⟨fun x hx => by have := hm x hx; simpa [Cs.all, hornC] using this, hc, he⟩
theorem horn_g02 : gapsM allT (hornC []) 0 2 = 36 :=
  gap_eq (l := [⟨0, 1, 30⟩, ⟨1, 2, 6⟩]) (horn_check [] (.inl rfl)) horn_t1 (by omega) (by omega) (horn_row (by decide) ⟨rfl, rfl, trivial⟩ rfl) rfl
theorem horn_g32 : gapsM allT (hornC []) 3 2 = -4 :=
  gap_eq (l := [⟨3, 0, -40⟩, ⟨0, 1, 30⟩, ⟨1, 2, 6⟩]) (horn_check [] (.inl rfl)) horn_t1 (by omega) (by omega) (horn_row (by decide) ⟨rfl, rfl, rfl, trivial⟩ rfl) rfl
theorem horn_g23 : gapsM allT (hornC []) 2 3 = 48 :=
  gap_eq (l := [⟨2, 1, -2⟩, ⟨1, 0, 0⟩, ⟨0, 3, 50⟩]) (horn_check [] (.inl rfl)) horn_t2 (by omega) (by omega) (horn_row (by decide) ⟨rfl, rfl, rfl, trivial⟩ rfl) rfl
theorem horn_fine : Fine (hornC []).all := by rw [← belL_all]; exact horn_t1.fine
theorem horn_gap : gapOf (hornC []) 0 2 = (36, 0) := by
  have := gap_is (a := 0) (b := 2) (horn_check [] (.inl rfl)) horn_fine (by decide) (by decide)
  rw [horn_g02] at this
  exact this
theorem horn_before : beforeOf (hornC []) 2 3 = (1, 0) := by
  have := before_is (a := 2) (b := 3) (horn_check [] (.inl rfl)) horn_fine (by decide) (by decide)
  unfold verdictM at this
  rw [horn_g32] at this
  exact this
theorem horn_ask : askOf (hornC []) 2 3 = ((4, 48), 0) := by
  have h1 : askedC (hornC []) [2, 3] = 0 := asked_two (a := 2) (b := 3) (horn_check [] (.inl rfl)) horn_fine (by decide) (by decide)
  unfold askOf
  rw [if_pos h1]
  show (if gapsM allT (hornC []) 2 3 = far ∨ gapsM allT (hornC []) 3 2 = far then _ else ((-gapsM allT (hornC []) 3 2, gapsM allT (hornC []) 2 3), 0)) = _
  rw [horn_g32, horn_g23]
  rfl
theorem horn_shows : showsOf (hornC []) 3 2 [5, 0, 2] = (-4, 0) := by
  unfold showsOf
  rw [if_neg (by rw [horn_check [] (.inl rfl)]; decide)]
  decide
theorem horn_ring : ringC (hornC []) = 6 := by
  unfold ringC
  rw [horn_check [] (.inl rfl), clash_of (horn_check [] (.inl rfl)) (by rw [belL_all]; exact horn_fine)]
  rfl
theorem lie_ring {tf : Int → Bool} (h : tf 0 = true) : clashM (gapsM tf (hornC lieL)) = true := by
  cases hc : clashM (gapsM tf (hornC lieL)) with
  | true => rfl
  | false =>
    have hf := fine_of (horn_check lieL (.inr rfl)) hc
    have hb : belL tf (hornC lieL) = (hornC lieL).bs ++ [⟨1, 0, -50⟩] := by
      unfold belL belNum hornC lieL
      simp [numFrom, clNum, h]
    have := hf 0 [⟨0, 1, 30⟩, ⟨1, 0, -50⟩] (by omega) ⟨by rw [hb]; decide, ⟨rfl, rfl, trivial⟩, rfl⟩
    exact absurd this (by decide)
theorem lie_told : toldC (hornC lieL) = 7 := by
  unfold toldC
  rw [if_pos (horn_check lieL (.inr rfl)), lie_ring rfl]
  rfl
theorem lie_p0 : liarsP (hornC lieL) [] = false := by
  unfold liarsP
  rw [lie_ring rfl]; rfl
theorem lie_p1 : liarsP (hornC lieL) [0] = true := by
  unfold liarsP
  rw [clash_of (horn_check lieL (.inr rfl))]; rfl
  have hb : belL (fun n => !memI n [0]) (hornC lieL) = (hornC lieL).bs := by
    unfold belL belNum hornC lieL
    simp [numFrom, clNum, memI]
  rw [hb]
  exact TruthOf.fine (t := tru 0 30 36 40) (show ∀ x ∈ (hornC lieL).bs, tru 0 30 36 40 x.t.toNat ≤ tru 0 30 36 40 x.f.toNat + x.m by decide)
theorem lie_few : fewL (liarsP (hornC lieL)) (hornC lieL).wi.toNat = some [0] := by
  show fewL (liarsP (hornC lieL)) 2 = some [0]
  simp [fewL, tryL, moreL, lie_p0, lie_p1]
theorem lie_liars : liarsC (hornC lieL) = 0 := by
  unfold liarsC
  rw [lie_few, horn_check lieL (.inr rfl)]
  rfl
end Go.Proofs.Ytgnjhaomlbkgcaa

namespace Go.Proofs.Ytgnjhaomlbkgcaa
open Go Go.RowKit Go.Shelf
set_option linter.unusedVariables false
set_option linter.unusedSimpArgs false


set_option maxRecDepth 100000 in
set_option maxHeartbeats 1000000 in
theorem horn_any (A : Option Addr) (k : Nat) (l : List Cl) (w : World) (hA : Claims w A l) :
    Calls Try.prog 83 #[.slice A l.length k] w fun e w' => ∃ v, e = .returned v ∧ CsR w' v (hornC l) ∧ Ext w w' := by
  go_enter Try.func83, Try.ntmps83
  go_wp2
  have hB : (((w.alloc (.cells #[.int .i64 4, .slice (some ⟨w.heap.size + 1, 0, none⟩) 6 6, .int .i64 2, .slice A l.length k] 26)).alloc (.cells (bcells (hornC l).bs).toArray 35))).heap[w.heap.size + 1]? = some (.cells (bcells (hornC l).bs).toArray 35 (0, 0)) := by
    have := heap_alloc_new (w.alloc (.cells #[.int .i64 4, .slice (some ⟨w.heap.size + 1, 0, none⟩) 6 6, .int .i64 2, .slice A l.length k] 26)) (.cells (bcells (hornC l).bs).toArray 35)
    simpa using this
  have hx := Ext.alloc (Ext.alloc (Ext.refl w) (.cells #[.int .i64 4, .slice (some ⟨w.heap.size + 1, 0, none⟩) 6 6, .int .i64 2, .slice A l.length k] 26)) (.cells (bcells (hornC l).bs).toArray 35)
  refine bodyPost_ret (v := .agg #[.int .i64 4, .slice (some ⟨w.heap.size + 1, 0, none⟩) 6 6, .int .i64 2, .slice A l.length k]) ?_ rfl ⟨_, rfl, ⟨some ⟨w.heap.size + 1, 0, none⟩, 6, A, k, rfl, rd_block hB, hA.ext hx⟩, hx⟩
  simp [results, Try.results83, go_sem]

theorem own_one_claim (w : World) (B C : Nat) (hB : w.heap[B]? = some (.cells #[.int .i64 1, .int .i64 0, .int .i64 (-50)] 35 (0, 0))) (hC : w.heap[C]? = some (.cells #[.int .i64 0, .slice (some ⟨B, 0, none⟩) 1 1] 37 (0, 0))) : Claims w (some ⟨C, 0, none⟩) lieL := by
  refine ⟨_, rd_block (xs := [.int .i64 0, .slice (some ⟨B, 0, none⟩) 1 1]) hC, rfl, ⟨some ⟨B, 0, none⟩, 1, rfl, ?_⟩, trivial⟩
  exact rd_block (xs := bcells [⟨1, 0, -50⟩]) hB
theorem horn_sized (l : List Cl) (h : l = [] ∨ l = lieL) : (hornC l).sized := by
  rcases h with rfl | rfl <;> exact ⟨by decide, by decide, by decide⟩

set_option maxRecDepth 100000 in
set_option maxHeartbeats 4000000 in
theorem awake_any (w : World) : Calls Try.prog 22 #[] w fun e w' => e = .returned (.bool true) ∧ Ext w w' := by
  have z0 := horn_sized [] (.inl rfl)
  have z1 := horn_sized lieL (.inr rfl)
  go_enter Try.func22, Try.ntmps22
  go_wp2_with fail
  refine (horn_any none 0 [] w (Claims.nil w none)).mono ?_
  rintro e w1 ⟨v1, rfl, h1, x1⟩
  go_wp2_with fail
  refine (gap_any v1 (hornC []) 0 2 w1 h1 z0).mono ?_
  rw [horn_gap]
  rintro e w2 ⟨rfl, x2⟩
  have y2 := x1.trans x2
  clear x1 x2 h1
  go_wp2_with fail
  refine (horn_any none 0 [] w2 (Claims.nil w2 none)).mono ?_
  rintro e w3 ⟨v3, rfl, h3, x3⟩
  go_wp2_with fail
  refine (before_any v3 (hornC []) 2 3 w3 h3 z0).mono ?_
  rw [horn_before]
  rintro e w4 ⟨rfl, x4⟩
  have y4 := y2.trans (x3.trans x4)
  clear x3 x4 h3 y2
  go_wp2_with fail
  refine (horn_any none 0 [] w4 (Claims.nil w4 none)).mono ?_
  rintro e w5 ⟨v5, rfl, h5, x5⟩
  go_wp2_with fail
  refine (shows_any v5 (hornC []) 3 2 (some ⟨w5.heap.size, 0, none⟩) 3 [5, 0, 2] _ (h5.ext (Ext.alloc (Ext.refl w5) _)) z0 ?i5 (by decide)).mono ?_
  case i5 => exact rd_block (xs := [.int .i64 5, .int .i64 0, .int .i64 2]) (heap_alloc_new w5 _)
  rw [horn_shows]
  rintro e w6 ⟨rfl, x6⟩
  have y6 := y4.trans (x5.trans (Ext.alloc_cell x6))
  clear x5 x6 h5 y4
  go_wp2_with fail
  refine (horn_any (some ⟨w6.heap.size + 1, 0, none⟩) 1 lieL _ ?i6).mono ?_
  case i6 =>
    refine own_one_claim _ w6.heap.size (w6.heap.size + 1) ?_ ?_
    · exact (Below.block (Ext.alloc (Ext.refl _) _) _ (by simp)).trans (heap_alloc_new w6 _)
    · have := heap_alloc_new (w6.alloc (.cells #[.int .i64 1, .int .i64 0, .int .i64 (-50)] 35)) (.cells #[.int .i64 0, .slice (some ⟨w6.heap.size, 0, none⟩) 1 1] 37)
      simpa using this
  rintro e w7 ⟨v7, rfl, h7, x7⟩
  obtain ⟨A1, c1, A2, c2, rfl, p1, p2⟩ := h7
  have y7 := y6.trans (Ext.alloc_cell (Ext.alloc_cell x7))
  clear x7 y6
  go_wp2_with fail
  have x8 := Ext.alloc (Ext.refl w7) (.cells #[.int .i64 (hornC lieL).ev, .slice A1 (hornC lieL).bs.length c1, .int .i64 (hornC lieL).wi, .slice A2 (hornC lieL).cl.length c2] 26)
  have C8 : CsR (w7.alloc (.cells #[.int .i64 (hornC lieL).ev, .slice A1 (hornC lieL).bs.length c1, .int .i64 (hornC lieL).wi, .slice A2 (hornC lieL).cl.length c2] 26)) (.agg #[.int .i64 (hornC lieL).ev, .slice A1 (hornC lieL).bs.length c1, .int .i64 (hornC lieL).wi, .slice A2 (hornC lieL).cl.length c2]) (hornC lieL) := ⟨A1, c1, A2, c2, rfl, p1.ext x8, p2.ext x8⟩
  refine (liars_any _ (hornC lieL) _ C8 z1).mono ?_
  rw [lie_liars]
  rintro e w9 ⟨r9, rfl, x9, -, q9⟩
  obtain ⟨l9, A9, c9, hl9, rfl, i9⟩ := q9 rfl
  rw [lie_few] at hl9
  obtain rfl : l9 = [0] := (Option.some.inj hl9).symm
  have C9 := C8.ext x9
  have y9 := y7.trans (x8.trans x9)
  have k0 := x9.cell (p := ⟨w7.heap.size, 0, none⟩) (u := .int .i64 (hornC lieL).ev) (by simp [go_sem])
  have k1 := x9.cell (p := ⟨w7.heap.size, 1, none⟩) (u := .slice A1 (hornC lieL).bs.length c1) (by simp [go_sem])
  have k2 := x9.cell (p := ⟨w7.heap.size, 2, none⟩) (u := .int .i64 (hornC lieL).wi) (by simp [go_sem])
  have k3 := x9.cell (p := ⟨w7.heap.size, 3, none⟩) (u := .slice A2 (hornC lieL).cl.length c2) (by simp [go_sem])
  clear x8 x9 hl9 q9 C8 y7 p1 p2
  go_wp2_with fail
  refine (horn_any none 0 [] w9 (Claims.nil w9 none)).mono ?_
  rintro e w10 ⟨v10, rfl, h10, x10⟩
  go_wp2_with fail
  refine (ring_any v10 (hornC []) w10 h10 z0).mono ?_
  rw [horn_ring]
  rintro e w11 ⟨r11, rfl, x11, q11, -⟩
  obtain rfl := q11 (by decide)
  have x911 := x10.trans x11
  have y11 := y9.trans x911
  have C11 := C9.ext x911
  have i11 := i9.ext x911
  have k0 := x911.cell k0
  have k1 := x911.cell k1
  have k2 := x911.cell k2
  have k3 := x911.cell k3
  clear x10 x11 h10 q11 y9 C9 i9 x911
  go_wp2_with fail
  refine (truth_any _ (hornC lieL) w11 C11 z1).mono ?_
  rw [lie_told]
  rintro e w12 ⟨r12, rfl, x12, -, q12⟩
  obtain rfl := q12 (by decide)
  have y12 := y11.trans x12
  have i12 := i11.ext x12
  clear q12 y11 C11 i11 x12
  go_wp2_with fail
  refine (horn_any none 0 [] w12 (Claims.nil w12 none)).mono ?_
  rintro e w13 ⟨v13, rfl, h13, x13⟩
  go_wp2_with fail
  refine (ask_any v13 (hornC []) 2 3 w13 h13 z0).mono ?_
  rw [horn_ask]
  rintro e w14 ⟨rfl, x14⟩
  have y14 := y12.trans (x13.trans x14)
  have i14 := i12.ext (x13.trans x14)
  clear x13 x14 h13 y12 i12
  go_wp2_with fail
  have x15 := Ext.alloc (Ext.alloc (Ext.refl w14) (.cells #[.int .i64 4, .int .i64 48] 59)) (.cells #[.int .i64 0] 3)
  refine (eq_int A9 (some ⟨w14.heap.size + 1, 0, none⟩) c9 1 [0] [0] _ (i14.ext x15) ?i15 (by decide) (by decide)).mono ?_
  case i15 =>
    refine rd_block (xs := [.int .i64 0]) (T := 3) (fr := (0, 0)) ?_
    have := heap_alloc_new (w14.alloc (.cells #[.int .i64 4, .int .i64 48] 59)) (.cells #[.int .i64 0] 3)
    simpa using this
  rintro e w16 ⟨rfl, x16⟩
  have m0 := x16.cell (p := ⟨w14.heap.size, 0, none⟩) (u := .int .i64 4) (by simp [go_sem])
  have m1 := x16.cell (p := ⟨w14.heap.size, 1, none⟩) (u := .int .i64 48) (by simp [go_sem])
  have y16 := y14.trans (x15.trans x16)
  clear x15 x16 y14
  go_wp2
  go_ret
  exact ⟨rfl, y16⟩
end Go.Proofs.Ytgnjhaomlbkgcaa

namespace Go.Proofs.Ytgnjhaomlbkgcaa
open Go Go.RowKit
set_option linter.unusedVariables false
set_option linter.unusedSimpArgs false

/-- A digit of a number to the base 2. -/
def bit (n i : Nat) : Bool := decide (n / 2 ^ i % 2 = 1)
theorem bit_zero (n : Nat) : bit n 0 = decide (n % 2 = 1) := by simp [bit]
theorem bit_succ (n i : Nat) : bit n (i + 1) = bit (n / 2) i := by
  unfold bit
  rw [Nat.div_div_eq_div_mul, Nat.pow_succ, Nat.mul_comm]
theorem bits_all : ∀ (wi : Nat) (P : Nat → Bool), ∃ n, n < 2 ^ wi ∧ ∀ i, i < wi → bit n i = P i := by
  intro wi
  induction wi with
  | zero => exact fun _ => ⟨0, by decide, fun i h => absurd h (by omega)⟩
  | succ wi ih =>
    intro P
    obtain ⟨n, hn, hb⟩ := ih (fun i => P (i + 1))
    refine ⟨2 * n + (if P 0 then 1 else 0), by rw [Nat.pow_succ]; split <;> omega, fun i hi => ?_⟩
    cases i with
    | zero =>
      rw [bit_zero]
      cases P 0 <;> simp <;> omega
    | succ i =>
      rw [bit_succ]
      have e : (2 * n + (if P 0 then 1 else 0)) / 2 = n := by split <;> omega
      rw [e]
      exact hb i (by omega)
theorem someW_congr {P Q : Nat → Bool} {wi : Nat} (h : ∀ i, i < wi → P i = Q i) : someW P wi = someW Q wi := by
  unfold someW
  congr 1
  exact List.filter_congr fun i hi => h i (List.mem_range.1 hi)
/-- Each list that grows is that of a set. -/
theorem asc_range : ∀ (c k wi : Nat) (e : List Int), k + c = wi → Asc k wi e → ∃ P : Nat → Bool, ((List.range' k c).filter P).map (fun n : Nat => (n : Int)) = e := by
  intro c
  induction c with
  | zero =>
    intro k wi e h ha
    refine ⟨fun _ => false, ?_⟩
    cases e with
    | nil => rfl
    | cons x e =>
      obtain ⟨h1, h2, _⟩ := ha
      omega
  | succ c ih =>
    intro k wi e h ha
    have hcong : ∀ P Q : Nat → Bool, (∀ i, k + 1 ≤ i → P i = Q i) → (List.range' (k + 1) c).filter P = (List.range' (k + 1) c).filter Q := fun P Q hPQ =>
      List.filter_congr fun i hi => hPQ i (by have := List.mem_range'_1.1 hi; omega)
    cases e with
    | nil =>
      refine ⟨fun _ => false, ?_⟩
      rw [List.filter_eq_nil_iff.2 (fun a _ => by simp)]
      rfl
    | cons x e =>
      obtain ⟨h1, h2, h3⟩ := ha
      by_cases hx : x = (k : Int)
      · subst hx
        rw [Int.toNat_natCast] at h3
        obtain ⟨P, hP⟩ := ih (k + 1) wi e (by omega) h3
        refine ⟨fun i => if i = k then true else P i, ?_⟩
        rw [List.range'_succ, List.filter_cons, if_pos (by simp), List.map_cons, hcong _ P (fun i hi => by rw [if_neg (by omega)]), hP]
      · obtain ⟨P, hP⟩ := ih (k + 1) wi (x :: e) (by omega) ⟨by omega, h2, h3⟩
        refine ⟨fun i => if i = k then false else P i, ?_⟩
        rw [List.range'_succ, List.filter_cons, if_neg (by simp), hcong _ P (fun i hi => by rw [if_neg (by omega)]), hP]
theorem asc_set {wi : Nat} {e : List Int} (h : Asc 0 wi e) : ∃ n, n < 2 ^ wi ∧ someW (bit n) wi = e := by
  obtain ⟨P, hP⟩ := asc_range wi 0 wi e (by omega) h
  obtain ⟨n, hn, hb⟩ := bits_all wi P
  refine ⟨n, hn, ?_⟩
  rw [someW_congr hb]
  unfold someW
  rw [List.range_eq_range']
  exact hP

theorem cmp_trans : ∀ {a b c : List Int}, cmpL a b < 0 → cmpL b c < 0 → cmpL a c < 0 := by
  intro a
  induction a with
  | nil =>
    intro b c h1 h2
    cases c with
    | nil =>
      cases b with
      | nil => exact h2
      | cons y b => simp [cmpL] at h2
    | cons z c => simp [cmpL]
  | cons x a ih =>
    intro b c h1 h2
    cases b with
    | nil => simp [cmpL] at h1
    | cons y b =>
      cases c with
      | nil => simp [cmpL] at h2
      | cons z c =>
        unfold cmpL at h1 h2 ⊢
        by_cases h3 : x < y
        · by_cases h4 : y < z
          · rw [if_pos (by omega)]; omega
          · rw [if_neg h4] at h2
            by_cases h5 : z < y
            · rw [if_pos h5] at h2; omega
            · rw [if_pos (by omega)]; omega
        · rw [if_neg h3] at h1
          by_cases h4 : y < x
          · rw [if_pos h4] at h1; omega
          · rw [if_neg h4] at h1
            obtain rfl : x = y := by omega
            by_cases h5 : x < z
            · rw [if_pos h5]; omega
            · rw [if_neg h5] at h2 ⊢
              by_cases h6 : z < x
              · rw [if_pos h6] at h2; omega
              · rw [if_neg h6] at h2 ⊢
                exact ih h1 h2
theorem cmp_eq : ∀ {a b : List Int}, ¬ cmpL a b < 0 → ¬ cmpL b a < 0 → a.length = b.length → a = b := by
  intro a
  induction a with
  | nil =>
    intro b _ _ h
    cases b with
    | nil => rfl
    | cons y b => cases h
  | cons x a ih =>
    intro b h1 h2 h
    cases b with
    | nil => cases h
    | cons y b =>
      unfold cmpL at h1 h2
      by_cases h3 : x < y
      · rw [if_pos h3] at h1; omega
      · by_cases h4 : y < x
        · rw [if_pos h4] at h2; omega
        · rw [if_neg h3, if_neg h4] at h1
          rw [if_neg h4, if_neg h3] at h2
          obtain rfl : x = y := by omega
          rw [ih h1 h2 (by simpa using h)]
theorem fewer_iff {a b : List Int} : fewerL a b = true ↔ a.length < b.length ∨ (a.length = b.length ∧ cmpL a b < 0) := by
  unfold fewerL
  simp
theorem fewer_trans {a b c : List Int} (h1 : fewerL a b = true) (h2 : fewerL b c = true) : fewerL a c = true := by
  rw [fewer_iff] at *
  rcases h1 with h1 | ⟨h1, k1⟩ <;> rcases h2 with h2 | ⟨h2, k2⟩
  · left; omega
  · left; omega
  · left; omega
  · right; exact ⟨by omega, cmp_trans k1 k2⟩
theorem fewer_eq {a b : List Int} (h1 : fewerL a b = false) (h2 : fewerL b a = false) : a = b := by
  rw [← Bool.not_eq_true, fewer_iff] at h1 h2
  have hl : a.length = b.length := by
    rcases Nat.lt_trichotomy a.length b.length with h | h | h
    · exact absurd (.inl h) h1
    · exact h
    · exact absurd (.inl h) h2
  exact cmp_eq (fun h => h1 (.inr ⟨hl, h⟩)) (fun h => h2 (.inr ⟨hl.symm, h⟩)) hl

/-- One set more is tried. -/
def bestStep (p : List Int → Bool) (wi : Nat) (s : Option (List Int)) (n : Nat) : Option (List Int) :=
  if (match s with | none => true | some b => fewerL (someW (bit n) wi) b) && p (someW (bit n) wi) then some (someW (bit n) wi) else s
def bestTo (p : List Int → Bool) (wi : Nat) : Nat → Option (List Int)
  | 0 => none
  | n + 1 => bestStep p wi (bestTo p wi n) n
theorem bestTo_spec (p : List Int → Bool) (wi : Nat) : ∀ n, (∀ b, bestTo p wi n = some b → (∃ m, m < n ∧ b = someW (bit m) wi) ∧ p b = true ∧ ∀ m, m < n → p (someW (bit m) wi) = true → fewerL (someW (bit m) wi) b = false) ∧
    (bestTo p wi n = none → ∀ m, m < n → p (someW (bit m) wi) = false) := by
  intro n
  induction n with
  | zero => exact ⟨fun b h => (by cases h), fun _ m h => absurd h (by omega)⟩
  | succ n ih =>
    obtain ⟨i1, i2⟩ := ih
    unfold bestTo bestStep
    rcases hb : bestTo p wi n with _ | b0
    · have h0 := i2 hb
      simp only [Bool.true_and]
      cases hp : p (someW (bit n) wi)
      · rw [if_neg (by simp)]
        refine ⟨fun b h => (by cases h), fun _ m hm => ?_⟩
        by_cases e : m = n
        · subst e; exact hp
        · exact h0 m (by omega)
      · rw [if_pos rfl]
        refine ⟨fun b h => ?_, fun h => by cases h⟩
        cases h
        refine ⟨⟨n, by omega, rfl⟩, hp, fun m hm hq => ?_⟩
        by_cases e : m = n
        · subst e
          rw [← Bool.not_eq_true, fewer_iff]
          rintro (h | ⟨_, h⟩)
          · omega
          · have : ∀ l : List Int, ¬ cmpL l l < 0 := by
              intro l
              induction l with
              | nil => simp [cmpL]
              | cons x l ih => unfold cmpL; rw [if_neg (by omega), if_neg (by omega)]; exact ih
            exact this _ h
        · rw [h0 m (by omega)] at hq; cases hq
    · obtain ⟨⟨m0, hm0, e0⟩, hp0, hall⟩ := i1 b0 hb
      simp only
      cases hc : fewerL (someW (bit n) wi) b0 && p (someW (bit n) wi)
      · rw [if_neg (by simp)]
        refine ⟨fun b h => ?_, fun h => by cases h⟩
        cases h
        refine ⟨⟨m0, by omega, e0⟩, hp0, fun m hm hq => ?_⟩
        by_cases e : m = n
        · subst e
          rw [hq, Bool.and_true] at hc
          exact hc
        · exact hall m (by omega) hq
      · rw [if_pos rfl]
        rw [Bool.and_eq_true] at hc
        refine ⟨fun b h => ?_, fun h => by cases h⟩
        cases h
        refine ⟨⟨n, by omega, rfl⟩, hc.2, fun m hm hq => ?_⟩
        rw [Bool.eq_false_iff]
        intro hf
        by_cases e : m = n
        · subst e
          have h1 := fewer_trans hf hc.1
          rw [fewer_iff] at hf
          have : ∀ l : List Int, ¬ cmpL l l < 0 := by
            intro l
            induction l with
            | nil => simp [cmpL]
            | cons x l ih => unfold cmpL; rw [if_neg (by omega), if_neg (by omega)]; exact ih
          rcases hf with h | ⟨_, h⟩
          · omega
          · exact this _ h
        · have h1 := fewer_trans hf hc.1
          rw [hall m (by omega) hq] at h1; cases h1
theorem best_is (p : List Int → Bool) (wi : Nat) : bestTo p wi (2 ^ wi) = fewL p wi := by
  obtain ⟨s1, s2⟩ := bestTo_spec p wi (2 ^ wi)
  rcases hf : fewL p wi with _ | r
  · rcases hb : bestTo p wi (2 ^ wi) with _ | b
    · rfl
    · obtain ⟨⟨m, hm, e⟩, hp, _⟩ := s1 b hb
      have := fewL_none hf b (by rw [e]; exact someW_asc _ _)
      rw [hp] at this; cases this
  · obtain ⟨f1, f2, f3⟩ := fewL_some hf
    obtain ⟨n, hn, he⟩ := asc_set f1
    rcases hb : bestTo p wi (2 ^ wi) with _ | b
    · have := s2 hb n hn
      rw [he, f2] at this; cases this
    · obtain ⟨⟨m, hm, e⟩, hp, hall⟩ := s1 b hb
      have h1 := hall n hn (by rw [he]; exact f2)
      rw [he] at h1
      have h2 : fewerL b r = false := by
        rw [Bool.eq_false_iff]
        intro h
        have := f3 b (by rw [e]; exact someW_asc _ _) h
        rw [hp] at this; cases this
      rw [fewer_eq h2 h1]
/-- What sets of truth values believe. -/
theorem belT_memI {wi : Nat} {P : Nat → Bool} {x : Int} (h0 : 0 ≤ x) (h1 : x < wi) : belT (rl wi P) x = memI x (someW P wi) := by
  have h : belT (rl wi P) x = P x.toNat := by
    unfold belT
    rw [List.getD_eq_getElem?_getD, rl_get _ (by omega)]
    rfl
  rw [h]
  have h2 := mem_memI (x := x) (l := someW P wi)
  rw [mem_someW] at h2
  cases hp : P x.toNat
  · symm
    rw [Bool.eq_false_iff]
    intro h3
    have := (h2.1 h3).2.2
    rw [hp] at this; cases this
  · exact (h2.2 ⟨h0, h1, hp⟩).symm
end Go.Proofs.Ytgnjhaomlbkgcaa

namespace Go.Proofs.Ytgnjhaomlbkgcaa
open Go Go.RowKit
set_option linter.unusedVariables false
set_option linter.unusedSimpArgs false

set_option maxRecDepth 100000 in
set_option maxHeartbeats 1000000 in
theorem refset_any (v : Value) (c : Cs) (n : Nat) (w : World) (hc : CsR w v c) (h0 : 0 ≤ c.wi) (h6 : c.wi ≤ 6) (hn6 : n ≤ 1000000) :
    Calls Try.prog 108 #[v, .int .i64 (n : Int)] w fun e w' => ∃ B, e = .returned (.slice (some ⟨B, 0, none⟩) c.wi.toNat c.wi.toNat) ∧ w.heap.size ≤ B ∧ Brow w' B (rl c.wi.toNat (bit n)) ∧ Ext w w' := by
  obtain ⟨A1, c1, A2, c2, rfl, hB, hC⟩ := hc
  obtain ⟨N, hn⟩ : ∃ n : Nat, c.wi = n := ⟨c.wi.toNat, by omega⟩
  have HN : Hid (c.wi.toNat = N) := by unfold Hid; omega
  rw [HN.out, hn]
  have hN6 : N ≤ 6 := by omega
  clear hn h0 h6
  have hmk := fun w => run_make_row' (P := Try.prog) 77 4 (.bool false) 1 Try.underlying77 infoBool rfl .i64 .i64 N (by omega) (by omega) w
  obtain ⟨W0, hW0⟩ : ∃ W0, w.alloc (.cells #[.int .i64 c.ev, .slice A1 c.bs.length c1, .int .i64 (N : Int), .slice A2 c.cl.length c2] 72) = W0 := ⟨_, rfl⟩
  have hx0 : Ext w W0 := by rw [← hW0]; exact Ext.alloc (Ext.refl w) _
  have hz0 : W0.heap.size = w.heap.size + 1 := by rw [← hW0]; simp
  have q2 : W0.cell? ⟨w.heap.size, 2, none⟩ = some (.int .i64 (N : Int)) := by rw [← hW0]; simp [go_sem]
  go_enter Try.func108, Try.ntmps108
  go_wp2
  clear hW0
  obtain ⟨W2, hW2⟩ : ∃ W2, W0.alloc (.cells (madeCells #[.bool false] N) 4) = W2 := ⟨_, rfl⟩
  have hxW2 : Ext W0 W2 := by rw [← hW2]; exact Ext.alloc (Ext.refl _) _
  have hI0 : Brow W2 (w.heap.size + 1) (rl N fun x => decide (x < 0) && bit n x) := by
    rw [← hz0, show (fun x : Nat => decide (x < 0) && bit n x) = fun _ => false from funext fun x => by simp, rl_const, ← hW2, made_brow]; exact World.alloc_heap_new _ _
  rw [hW2]
  have hx2 : Ext w W2 := hx0.trans hxW2
  have hgw : w.heap.size ≤ w.heap.size + 1 := by omega
  clear hW2 hmk hxW2 q2 hz0
  go_loopw [1, 6] (fun s1 i wr => ∃ k : Nat, k ≤ N ∧ i = .int .i64 (k : Int) ∧ s1 = .int .i64 ((n / 2 ^ k : Nat) : Int) ∧ Brow wr (w.heap.size + 1) (rl N fun x => decide (x < k) && bit n x) ∧ Ext w wr) (fun _ i _ => N - (intOf i).toNat)
  case atStart => exact ⟨0, Nat.zero_le _, rfl, by simp, hI0, hx2⟩
  case round =>
    obtain ⟨k, hk, rfl, rfl, hI, hx⟩ := hrel
    by_cases hlt : k < N
    · have hlt' : (k : Int) < (N : Int) := by omega
      have hcell := hI.at_ (rl_get _ hlt)
      have hfz := hI.frozen k
      have hI2 := hI.set k (bit n k)
      rw [← rl_upd] at hI2
      have hfn : upd1 (fun x : Nat => decide (x < k) && bit n x) k (bit n k) = fun x : Nat => decide (x < k + 1) && bit n x := by
        funext x; unfold upd1
        by_cases e : x = k
        · subst e; simp
        · rw [if_neg e]
          have hd : decide (x < k) = decide (x < k + 1) := by rw [decide_eq_decide]; omega
          show (decide (x < k) && bit n x) = (decide (x < k + 1) && bit n x)
          rw [hd]
      rw [hfn] at hI2
      have HI2 := hid hI2
      have hm6 : n / 2 ^ k ≤ n := Nat.div_le_self _ _
      have HQ : Hid ((((n / 2 ^ k : Nat) : Int)) / 2 = ((n / 2 ^ (k + 1) : Nat) : Int)) := by
        unfold Hid
        rw [Nat.pow_succ, ← Nat.div_div_eq_div_mul]; omega
      have hbit : ((((n / 2 ^ k : Nat) : Int)) % 2 == 1) = bit n k := by
        unfold bit
        rw [Bool.eq_iff_iff]
        simp only [beq_iff_eq, decide_eq_true_eq]
        omega
      generalize n / 2 ^ k = m at *
      clear hfn hI2 hI
      go_wp2
      go_roundw
      case rel => exact ⟨k + 1, by omega, by go_num, by rw [← HQ.out], HI2.out, hx.setCell hgw _⟩
      case measure => simp [intOf]; omega
    · have hlt' : ¬ (k : Int) < (N : Int) := by omega
      have hI2 : Hid (Brow wr (w.heap.size + 1) (rl N (bit n))) := by
        have e : rl N (fun x => decide (x < k) && bit n x) = rl N (bit n) := List.map_congr_left fun x hx => by have := List.mem_range.1 hx; rw [decide_eq_true (by omega)]; rfl
        rw [e] at hI; exact hI
      clear hI
      go_wp2
      go_ret
      exact ⟨_, rfl, hgw, hI2.out, hx⟩

set_option maxRecDepth 100000 in
set_option maxHeartbeats 1000000 in
theorem reflist_any (A : Option Addr) (kb N : Nat) (P : Nat → Bool) (w : World) (hA : Bools w A (rl N P)) (hN : N ≤ 1000) :
    Calls Try.prog 109 #[.slice A N kb] w fun e w' => ∃ A' c', e = .returned (.slice A' (someW P N).length c') ∧ w'.ownsRow w.heap.size 3 1 (.slice A' (someW P N).length c') (someW P N).length (icells (someW P N)) ∧ Ext w w' := by
  go_enter Try.func109, Try.ntmps109
  go_wp2
  go_loopw [3, 4] (fun s i wr => ∃ (k : Nat) (A' : Option Addr) (c' : Nat), k ≤ N ∧ i = .int .i64 (k : Int) ∧ s = .slice A' (someW P k).length c' ∧ Ext w wr ∧ Hid (wr.ownsRow w.heap.size 3 1 (.slice A' (someW P k).length c') (someW P k).length (icells (someW P k)))) (fun _ i _ => N - (intOf i).toNat)
  case atStart => exact ⟨0, none, 0, Nat.zero_le _, rfl, rfl, Ext.refl _, own_nil _ _ _ _⟩
  case round =>
    obtain ⟨k, A', c', hk, rfl, rfl, hx, O⟩ := hrel
    by_cases hlt : k < N
    · have hlt' : (k : Int) < (N : Int) := by omega
      obtain ⟨b, off, rfl, g0⟩ := (hA.ext hx).at_ (rl_get P hlt)
      have hlen := someW_len P k
      have hsz := hx.size
      cases hq : P k
      · rw [hq] at g0
        have HE : Hid (someW P (k + 1) = someW P k) := by unfold Hid; rw [someW_snoc, hq]; simp
        clear hq
        go_wp2
        go_roundw
        case rel => exact ⟨k + 1, A', c', by omega, by go_num, by rw [HE.out], hx, by unfold Hid; rw [HE.out]; exact O.out⟩
        case measure => simp [intOf]; omega
      · rw [hq] at g0
        have HE : Hid (someW P (k + 1) = someW P k ++ [(k : Int)]) := by unfold Hid; rw [someW_snoc, hq]; rfl
        have hxo := Ext.alloc (Ext.refl wr) (.cells #[.int .i64 (k : Int)] 3)
        have hbase : w.heap.size ≤ (wr.alloc (.cells #[.int .i64 (k : Int)] 3)).heap.size := by have := hxo.size; omega
        have O2 := hid (own_below O.out hxo)
        have hFk : ((someW P k).length + 1) * 8 ≤ 140737488355328 := by omega
        clear O hq
        go_wp2_with (at_builtin; refine wpList_append_rd _ rfl _ _ 27 rfl elem_int w.heap.size _ (someW P k).length (icells (someW P k)) rfl O2.out _ 1 1 (icells [(k : Int)]) rfl rfl (rd_block (heap_alloc_new wr _)) (icells_one _) hFk hbase ?_)
        intro A5 c5 w5 hown5 hbel5 hgr5 _
        have hx5 : Ext w w5 := Below.trans (hx.trans hxo) hbel5
        have O5 : Hid (w5.ownsRow w.heap.size 3 1 (.slice A5 (someW P (k + 1)).length c5) (someW P (k + 1)).length (icells (someW P (k + 1)))) := by
          unfold Hid; rw [HE.out, icells_app, List.length_append]; exact hown5
        clear hown5 hbel5 hgr5 O2 hxo
        go_wp2
        go_roundw
        case rel => exact ⟨k + 1, A5, c5, by omega, by go_num, by rw [HE.out, List.length_append]; rfl, hx5, O5⟩
        case measure => simp [intOf]; omega
    · have hlt' : ¬ (k : Int) < (N : Int) := by omega
      obtain rfl : k = N := by omega
      have hO := O.out
      clear O
      go_wp2
      go_ret
      exact ⟨A', c', rfl, hO, hx⟩

theorem cmp_drop {a b : List Int} {k : Nat} {x y : Int} (hx : a[k]? = some x) (hy : b[k]? = some y) : cmpL (a.drop k) (b.drop k) = if x < y then -1 else if y < x then 1 else cmpL (a.drop (k + 1)) (b.drop (k + 1)) := by
  have h1 : k < a.length := (List.getElem?_eq_some_iff.1 hx).1
  have h2 : k < b.length := (List.getElem?_eq_some_iff.1 hy).1
  rw [List.drop_eq_getElem_cons h1, List.drop_eq_getElem_cons h2, (List.getElem?_eq_some_iff.1 hx).2, (List.getElem?_eq_some_iff.1 hy).2]
  rfl

set_option maxRecDepth 100000 in
set_option maxHeartbeats 1000000 in
theorem refbefore_any (A A' : Option Addr) (ka kb : Nat) (a b : List Int) (w : World) (hA : Ints w A a) (hB : Ints w A' b) (hla : a.length ≤ 1000000) (hlb : b.length ≤ 1000000) :
    Calls Try.prog 110 #[.slice A a.length ka, .slice A' b.length kb] w fun e w' => e = .returned (.bool (fewerL a b)) ∧ Ext w w' := by
  obtain ⟨R, hR⟩ : ∃ R, fewerL a b = R := ⟨_, rfl⟩
  have HR := hid hR
  rw [hR]
  clear hR
  by_cases hlen : a.length = b.length
  case neg =>
    have hne : ((a.length : Int) != (b.length : Int)) = true := by simpa using fun h => hlen (by omega)
    have HE : Hid (R = decide (a.length < b.length)) := by
      unfold Hid
      rw [← HR.out]
      unfold fewerL
      have : (a.length == b.length) = false := by simpa using hlen
      rw [this, Bool.false_and, Bool.or_false]
    go_enter Try.func110, Try.ntmps110
    go_wp2
    go_ret
    exact ⟨ret_of (bool_of HE.out.symm), Ext.refl _⟩
  have hne : ((a.length : Int) != (b.length : Int)) = false := by simp [hlen]
  have HE : Hid (R = decide (cmpL (a.drop 0) (b.drop 0) < 0)) := by
    unfold Hid
    rw [← HR.out]
    unfold fewerL
    rw [decide_eq_false (by omega), Bool.false_or, hlen]
    simp
  have HLE := hid hlen
  have hl2 : (a.length : Int) = (b.length : Int) := by omega
  go_enter Try.func110, Try.ntmps110
  go_wp2
  go_loopw [5] (fun i wr => ∃ k : Nat, k ≤ a.length ∧ i = .int .i64 (k : Int) ∧ Ext w wr ∧ Hid (R = decide (cmpL (a.drop k) (b.drop k) < 0))) (fun i _ => a.length - (intOf i).toNat)
  case atStart => exact ⟨0, Nat.zero_le _, rfl, Ext.refl _, HE⟩
  case round =>
    obtain ⟨k, hk, rfl, hx, HQ⟩ := hrel
    by_cases hlt : k < a.length
    · have hlt' : (k : Int) < (a.length : Int) := by omega
      have hlt2 : (k : Int) < (b.length : Int) := by omega
      obtain ⟨x, hxk⟩ := get_of_lt a k hlt
      obtain ⟨y, hyk⟩ := get_of_lt b k (by omega)
      obtain ⟨b1, o1, rfl, c1⟩ := (hA.ext hx).at_ hxk
      obtain ⟨b2, o2, rfl, c2⟩ := (hB.ext hx).at_ hyk
      have HC := hid (cmp_drop hxk hyk)
      clear hxk hyk hl2
      by_cases hxy : x = y
      · subst hxy
        have n1 : (x != x) = false := by simp
        have HQ2 : Hid (R = decide (cmpL (a.drop (k + 1)) (b.drop (k + 1)) < 0)) := by
          unfold Hid
          rw [HQ.out, HC.out, if_neg (by omega), if_neg (by omega)]
        clear HQ HC
        go_wp2
        go_quiet (fail)
        go_wp2
        go_roundw
        case rel => exact ⟨k + 1, by omega, by go_num, hx.drewN _, HQ2⟩
        case measure => simp [intOf]; omega
      · have n1 : (x != y) = true := by simpa using hxy
        have HQ2 : Hid (R = decide (x < y)) := by
          unfold Hid
          rw [HQ.out, HC.out, decide_eq_decide]
          by_cases h : x < y
          · rw [if_pos h]; simp [h]
          · rw [if_neg h, if_pos (by omega)]; simp [h]
        clear HQ HC
        go_wp2
        go_quiet (fail)
        go_wp2
        go_quiet (fail)
        go_wp2
        go_ret
        exact ⟨ret_of (bool_of HQ2.out.symm), (hx.drewN _).drewN _⟩
    · have hlt' : ¬ (k : Int) < (a.length : Int) := by omega
      have HQ2 : Hid (R = false) := by
        unfold Hid
        have h3 := HLE.out
        rw [HQ.out, List.drop_eq_nil_of_le (by omega), List.drop_eq_nil_of_le (by omega)]
        rfl
      clear HQ
      go_wp2
      go_ret
      exact ⟨ret_of (bool_of HQ2.out.symm), hx⟩
end Go.Proofs.Ytgnjhaomlbkgcaa

namespace Go.Proofs.Ytgnjhaomlbkgcaa
open Go Go.RowKit Go.Shelf
set_option linter.unusedVariables false
set_option linter.unusedSimpArgs false

set_option maxRecDepth 100000 in
set_option maxHeartbeats 2000000 in
theorem needed1_fn (w : World) (B Ba Bb : Nat) (c : Cs) (a b : Nat) (ha : a < 8) (hb : b < 8) (hB : CaseAt w B c) (hBa : w.cell? ⟨Ba, 0, none⟩ = some (.int .i64 (a : Int))) (hBb : w.cell? ⟨Bb, 0, none⟩ = some (.int .i64 (b : Int))) (h0 : checkC c = 0) (hs : c.sized) :
    FnP Try.prog (.func (.func 115) #[] #[.pointer (some ⟨B, 0, none⟩), .pointer (some ⟨Ba, 0, none⟩), .pointer (some ⟨Bb, 0, none⟩)]) w IntsR (fun l => l.length ≤ 6) (neededP c a b) := by
  refine ⟨_, _, _, rfl, enters_of Try.func115 (by kernel_rfl) rfl, fun l v2 W hl hW hR => ?_⟩
  obtain ⟨A, k, rfl, hI⟩ := hR
  obtain ⟨A1, c1, A2, c2, e0, e1, e2, e3, hBo, hCl⟩ := hB.kc hW
  have hea := hW.cell hBa
  have heb := hW.cell hBb
  have hl63 : l.length ≤ 9223372036854775807 := by omega
  have H0 := hid h0
  have HP : Hid (neededP c a b l = (verdictM (gapsM (fun n => memI n l) c) a b == 1)) := rfl
  generalize hF : neededP c a b l = F at HP ⊢
  clear h0 hB hBa hBb hF
  show Calls _ _ #[_, _, _, _] _ _
  go_enter Try.func115, Try.ntmps115
  go_wp2
  have hxa : Ext W (W.alloc (.cells #[.slice A l.length k] 27)) := Ext.alloc (Ext.refl W) _
  have hlc : (W.alloc (.cells #[.slice A l.length k] 27)).cell? ⟨W.heap.size, 0, none⟩ = some (.slice A l.length k) := by simp [go_sem]
  obtain ⟨Wa, hWa⟩ : ∃ Wa, W.alloc (.cells #[.slice A l.length k] 27) = Wa := ⟨_, rfl⟩
  rw [hWa] at hxa hlc ⊢
  have FX : Hid (∀ w', Ext Wa w' → w'.cell? ⟨B, 0, none⟩ = some (.int .i64 c.ev) ∧ w'.cell? ⟨B, 1, none⟩ = some (.slice A1 c.bs.length c1) ∧ w'.cell? ⟨B, 2, none⟩ = some (.int .i64 c.wi) ∧ w'.cell? ⟨B, 3, none⟩ = some (.slice A2 c.cl.length c2) ∧
      w'.cell? ⟨Ba, 0, none⟩ = some (.int .i64 (a : Int)) ∧ w'.cell? ⟨Bb, 0, none⟩ = some (.int .i64 (b : Int)) ∧ w'.cell? ⟨W.heap.size, 0, none⟩ = some (.slice A l.length k) ∧ Ext W w') := fun w' h =>
    have hx := hxa.trans h
    ⟨hx.cell e0, hx.cell e1, hx.cell e2, hx.cell e3, hx.cell hea, hx.cell heb, h.cell hlc, hx⟩
  refine wp_region_opens Ext (fun w' => Ext Wa w') (fun | 3 => some (fun v w => DeskR w v c (gapsM (fun n => memI n l) c)) | 6 => some (fun v _ => v = .int .i64 (verdictM (gapsM (fun n => memI n l) c) a b)) | _ => none) (by kernel_rfl) (by kernel_rfl) (ext_up Wa) ?hT (Ext.drew (Ext.refl Wa)) ?_
  case hT =>
    intro i R hR
    match i, hR with
    | 3, hR => cases hR; exact fun _ _ _ h k => h.ext k
    | 6, hR => cases hR; exact fun _ _ _ h _ => h
  refine wpM_val ?u0 rfl rfl Ext.refl (fun w' hD => ?h0) ?n0
  case h0 =>
    obtain ⟨d0, d1, d2, d3, da, db, dl, dh⟩ := FX.out w' hD.1
    go_simp; rfl
  simp only [Act.put, List.setIfInBounds_toArray, List.set_cons_succ, List.set_cons_zero, Nat.reduceAdd]
  refine wpM_val ?u1 rfl rfl Ext.refl (fun w' hD => ?h1) ?n1
  case h1 =>
    obtain ⟨d0, d1, d2, d3, da, db, dl, dh⟩ := FX.out w' hD.1
    go_simp; rfl
  simp only [Act.put, List.setIfInBounds_toArray, List.set_cons_succ, List.set_cons_zero, Nat.reduceAdd]
  refine wpM_val ?u2 rfl rfl Ext.refl (fun w' hD => ?h2) ?n2
  case h2 =>
    obtain ⟨d0, d1, d2, d3, da, db, dl, dh⟩ := FX.out w' hD.1
    go_simp; rfl
  simp only [Act.put, List.setIfInBounds_toArray, List.set_cons_succ, List.set_cons_zero, Nat.reduceAdd]
  refine wpM_op _ rfl rfl (opens_call ?f3 ?g3 (fun w' hD => ?h3) (fun w' hD => ?c3)) (fun v3 hv3 => ?n3)
  case h3 => go_simp; constructor <;> rfl
  case c3 =>
    obtain ⟨d0, d1, d2, d3, da, db, dl, dh⟩ := FX.out w' hD.1
    refine (worked_any _ _ _ c (fun n => memI n l) w' rfl ⟨A1, c1, A2, c2, rfl, hBo.kc dh.kc, hCl.kc dh.kc⟩ (needed11_fn w' W.heap.size A k l dl (hI.ext dh) hl63) (checkC_bd H0.out) (checkC_52 H0.out) hs).mono ?_
    rintro e w2 ⟨r, rfl, hd, hb⟩
    exact ⟨_, rfl, hb, hd⟩
  simp only [Act.put, List.setIfInBounds_toArray, List.set_cons_succ, List.set_cons_zero, Nat.reduceAdd]
  refine wpM_val ?u4 rfl rfl Ext.refl (fun w' hD => ?h4) ?n4
  case h4 =>
    obtain ⟨d0, d1, d2, d3, da, db, dl, dh⟩ := FX.out w' hD.1
    go_simp; rfl
  simp only [Act.put, List.setIfInBounds_toArray, List.set_cons_succ, List.set_cons_zero, Nat.reduceAdd]
  refine wpM_val ?u5 rfl rfl Ext.refl (fun w' hD => ?h5) ?n5
  case h5 =>
    obtain ⟨d0, d1, d2, d3, da, db, dl, dh⟩ := FX.out w' hD.1
    go_simp; rfl
  simp only [Act.put, List.setIfInBounds_toArray, List.set_cons_succ, List.set_cons_zero, Nat.reduceAdd]
  refine wpM_op _ rfl rfl (opens_call ?f6 ?g6 (fun w' hD => ?h6) (fun w' hD => ?c6)) (fun v6 hv6 => ?n6)
  case h6 => go_simp; constructor <;> rfl
  case c6 =>
    refine (verdict_any v3 c _ w' (hD.get 3 (by first | kernel_rfl | simp [Region.binds])).2 a b ha hb).mono ?_
    rintro e w2 ⟨rfl, rfl⟩
    exact ⟨_, rfl, Ext.refl _, rfl⟩
  obtain ⟨_, _, _, rfl⟩ := hv6
  simp only [Act.put, List.setIfInBounds_toArray, List.set_cons_succ, List.set_cons_zero, Nat.reduceAdd]
  refine wpM_val ?u7 rfl rfl Ext.refl (fun w' hD => ?h7) ?n7
  case h7 =>
    obtain ⟨d0, d1, d2, d3, da, db, dl, dh⟩ := FX.out w' hD.1
    go_simp; rfl
  simp only [Act.put, List.setIfInBounds_toArray, List.set_cons_succ, List.set_cons_zero, Nat.reduceAdd]
  refine wpM_val ?u8 rfl rfl Ext.refl (fun w' hD => ?h8) ?n8
  case h8 =>
    obtain ⟨d0, d1, d2, d3, da, db, dl, dh⟩ := FX.out w' hD.1
    go_simp; rfl
  simp only [Act.put, List.setIfInBounds_toArray, List.set_cons_succ, List.set_cons_zero, Nat.reduceAdd]
  refine wpM_nil ?_
  intro w9 hw9 hF9
  go_wp2
  go_ret
  exact ⟨ret_of (bool_of (by rw [HP.out])), hxa.trans hw9⟩

set_option maxRecDepth 100000 in
set_option maxHeartbeats 2000000 in
theorem needed_any (v : Value) (c : Cs) (a b : Int) (w : World) (hc : CsR w v c) (hs : c.sized) :
    Calls Try.prog 59 #[v, .int .i64 a, .int .i64 b] w fun e w' => ∃ r, e = .returned (.tuple #[r, .int .i64 (neededC c a b)]) ∧ Ext w w' ∧ (neededC c a b ≠ 0 → r = .slice none 0 0) ∧
      (neededC c a b = 0 → ∃ l A' c', fewL (neededP c a.toNat b.toNat) c.wi.toNat = some l ∧ r = .slice A' l.length c' ∧ Ints w' A' l) := by
  have hc' := hc
  obtain ⟨A1, c1, A2, c2, rfl, hB, hC⟩ := hc
  generalize hT : neededC c a b = T
  have HT : Hid ((if askedC c [a, b] ≠ 0 then askedC c [a, b] else match fewL (neededP c a.toNat b.toNat) c.wi.toNat with | some _ => 0 | none => 6) = T) := hT
  clear hT
  obtain ⟨wi, hwn⟩ : ∃ wi, c.wi.toNat = wi := ⟨_, rfl⟩
  obtain ⟨an, han⟩ : ∃ an, a.toNat = an := ⟨_, rfl⟩
  obtain ⟨bn, hbn⟩ : ∃ bn, b.toNat = bn := ⟨_, rfl⟩
  rw [hwn, han, hbn] at HT ⊢
  go_enter Try.func59, Try.ntmps59
  go_wp2_with fail
  have hx0 : Ext w ((((w.alloc (.cells #[.int .i64 c.ev, .slice A1 c.bs.length c1, .int .i64 c.wi, .slice A2 c.cl.length c2] 26)).alloc (.cells #[.int .i64 a] 3)).alloc (.cells #[.int .i64 b] 3)).alloc (.cells #[.int .i64 a, .int .i64 b] 3)) := Ext.alloc (Ext.alloc (Ext.alloc (Ext.alloc (Ext.refl w) _) _) _) _
  refine (asked_any _ c _ 2 [a, b] _ (hc'.ext hx0) hs (ints_two _ _ a b (by simp [go_sem]) (by simp [go_sem])) (by simp)).mono ?_
  rintro e w1 ⟨r, rfl, hb1, hr1, hr2⟩
  have hx1 := hx0.trans hb1
  have kc0 := hb1.cell (p := ⟨w.heap.size, 0, none⟩) (u := .int .i64 c.ev) (by simp [go_sem])
  have kc1 := hb1.cell (p := ⟨w.heap.size, 1, none⟩) (u := .slice A1 c.bs.length c1) (by simp [go_sem])
  have kc2 := hb1.cell (p := ⟨w.heap.size, 2, none⟩) (u := .int .i64 c.wi) (by simp [go_sem])
  have kc3 := hb1.cell (p := ⟨w.heap.size, 3, none⟩) (u := .slice A2 c.cl.length c2) (by simp [go_sem])
  have kca := hb1.cell (p := ⟨w.heap.size + 1, 0, none⟩) (u := .int .i64 a) (by simp [go_sem])
  have kcb := hb1.cell (p := ⟨w.heap.size + 1 + 1, 0, none⟩) (u := .int .i64 b) (by simp [go_sem])
  by_cases h0 : askedC c [a, b] = 0
  · obtain ⟨hc0, _, hlt⟩ := askedC_parts h0
    have H0 := hid hc0
    have HT2 : Hid ((match fewL (neededP c an bn) wi with | some _ => (0 : Int) | none => 6) = T) := by unfold Hid; rw [← HT.out, if_neg (by simp [h0])]
    obtain ⟨ev1, ev8⟩ := checkC_ev hc0
    have ha := hlt a (by simp)
    have hb := hlt b (by simp)
    rw [h0]
    clear h0 HT hr1 hr2 hlt hc0
    obtain ⟨wi0, wi6⟩ := checkC_wi H0.out
    have hwi6 : wi ≤ 6 := by omega
    have HWI : Hid (c.wi = wi) := by unfold Hid; omega
    have ean : a = an := by omega
    have ebn : b = bn := by omega
    have han8 : an < 8 := by omega
    have hbn8 : bn < 8 := by omega
    have hfn := needed1_fn w1 w.heap.size (w.heap.size + 1) (w.heap.size + 1 + 1) c an bn han8 hbn8 ⟨A1, c1, A2, c2, kc0, kc1, kc2, kc3, hB.ext hx1, hC.ext hx1⟩ (by rw [← ean]; exact kca) (by rw [← ebn]; exact kcb) H0.out hs
    clear hwn ean ebn han hbn
    go_wp2_with fail
    refine (fewest_any _ c _ (neededP c an bn) wi w1 hwi6 HWI.out (hc'.ext hx1) hfn).mono ?_
    rintro e w2 ⟨ov, rfl, hb2, hr2⟩
    cases hq : fewL (neededP c an bn) wi with
    | some r =>
      have HQ : Hid (T = 0) := by unfold Hid; rw [← HT2.out, hq]
      have HS := hid hq
      obtain ⟨A5, c5, rfl, hI5⟩ := hr2 r hq
      clear hr2
      go_wp2
      go_ret2
      exact ⟨.slice A5 r.length c5, by rw [HQ.out]; rfl, hx1.trans hb2, fun h => absurd HQ.out h, fun _ => ⟨r, A5, c5, HS.out, rfl, hI5⟩⟩
    | none =>
      have HQ : Hid (T = 6) := by unfold Hid; rw [← HT2.out, hq]
      clear hr2
      go_wp2
      go_ret2
      exact ⟨.slice none 0 0, by rw [HQ.out]; rfl, hx1.trans hb2, fun _ => rfl, fun h => (by rw [HQ.out] at h; cases h)⟩
  · have HT2 : Hid (T = askedC c [a, b]) := by unfold Hid; rw [← HT.out, if_pos h0]
    have H0 := hid h0
    generalize hE : askedC c [a, b] = E at *
    clear hE hr1 hr2
    go_wp2
    go_ret2
    exact ⟨.slice none 0 0, by rw [HT2.out]; rfl, hx1, fun _ => rfl, fun h => absurd (HT2.out.symm.trans h) H0.out⟩
end Go.Proofs.Ytgnjhaomlbkgcaa

namespace Go.Proofs.Ytgnjhaomlbkgcaa
open Go Go.RowKit
set_option linter.unusedVariables false
set_option linter.unusedSimpArgs false

theorem belT_rl {wi : Nat} {P : Nat → Bool} {x : Int} (h0 : 0 ≤ x) (h1 : x < wi) : belT (rl wi P) x = P x.toNat := by
  unfold belT
  rw [List.getD_eq_getElem?_getD, rl_get _ (by omega)]
  rfl
/-- What is asked of each set of liars. -/
theorem liarsP_set {c : Cs} (h0 : checkC c = 0) (P : Nat → Bool) : clashR (belT (rl c.wi.toNat fun i => !P i)) c = !liarsP c (someW P c.wi.toNat) := by
  rw [clashR_is h0]
  unfold liarsP
  rw [Bool.not_not]
  congr 1
  refine gaps_congr fun x hx => ?_
  have h1 := wits h0 x hx
  rw [belT_rl h1.1 (by omega), ← belT_memI h1.1 (by omega), belT_rl h1.1 (by omega)]
theorem fine_sub {c : Cs} (h0 : checkC c = 0) (hc : clashM (gapsM allT c) = false) (tf : Int → Bool) : clashM (gapsM tf c) = false := by
  have hf := fine_of h0 hc
  rw [belL_all] at hf
  exact clash_of h0 fun v l hv hr => hf v l hv (hr.mono fun x hx => bel_mem' hx)
theorem neededP_set {c : Cs} (h0 : checkC c = 0) (hc : clashM (gapsM allT c) = false) {a b : Nat} (ha : (a : Int) < c.ev) (hb : (b : Int) < c.ev) (P : Nat → Bool) : yesR (belT (rl c.wi.toNat P)) c a b = neededP c a b (someW P c.wi.toNat) := by
  have hev := checkC_ev h0
  obtain ⟨q1, q2⟩ := gapR_is h0 (fine_sub h0 hc (belT (rl c.wi.toNat P))) (a := b) (b := a) (by omega) (by omega)
  have e : gapsM (belT (rl c.wi.toNat P)) c = gapsM (fun n => memI n (someW P c.wi.toNat)) c := gaps_congr fun x hx => by
    have h1 := wits h0 x hx
    exact belT_memI h1.1 (by omega)
  rw [e] at q1 q2
  unfold yesR neededP
  rw [q1]
  have hv := @verdict_yes (gapsM (fun n => memI n (someW P c.wi.toNat)) c) a b
  rw [Bool.eq_iff_iff, beq_iff_eq, hv]
  simp only [Bool.and_eq_true, decide_eq_true_eq]
  constructor
  · rintro ⟨h1, h2⟩
    rw [q2 h1] at h2
    omega
  · intro h
    have hn : gapsM (fun n => memI n (someW P c.wi.toNat)) c b a ≠ far := fun e => by rw [e] at h; unfold far at h; omega
    exact ⟨hn, by rw [q2 hn]; omega⟩
/-- The best set so far, as the reference keeps it. -/
def BestV (w : World) (v : Value) : Option (List Int) → Prop
  | none => v = .slice none 0 0
  | some b => ∃ A k, v = .slice A b.length k ∧ Ints w A b ∧ b.length ≤ 6
theorem BestV.ext {w w' : World} {v : Value} {s : Option (List Int)} (h : BestV w v s) (hx : Ext w w') : BestV w' v s := by
  cases s with
  | none => exact h
  | some b => obtain ⟨A, k, e, hi, hl⟩ := h; exact ⟨A, k, e, hi.ext hx, hl⟩
theorem best_no {p : List Int → Bool} {wi n : Nat} {s : Option (List Int)} (h : bestTo p wi n = s) (hp : p (someW (bit n) wi) = false) : bestTo p wi (n + 1) = s := by
  show bestStep p wi (bestTo p wi n) n = s
  unfold bestStep
  rw [hp, Bool.and_false, if_neg (by simp), h]
theorem best_no2 {p : List Int → Bool} {wi n : Nat} {b : List Int} (h : bestTo p wi n = some b) (hp : fewerL (someW (bit n) wi) b = false) : bestTo p wi (n + 1) = some b := by
  show bestStep p wi (bestTo p wi n) n = some b
  unfold bestStep
  rw [h]
  show (if (fewerL (someW (bit n) wi) b && p (someW (bit n) wi)) = true then some (someW (bit n) wi) else some b) = some b
  rw [hp]
  simp
theorem best_new {p : List Int → Bool} {wi n : Nat} (h : bestTo p wi n = none) (hp : p (someW (bit n) wi) = true) : bestTo p wi (n + 1) = some (someW (bit n) wi) := by
  show bestStep p wi (bestTo p wi n) n = _
  unfold bestStep
  rw [h, hp]
  rfl
theorem best_new2 {p : List Int → Bool} {wi n : Nat} {b : List Int} (h : bestTo p wi n = some b) (hf : fewerL (someW (bit n) wi) b = true) (hp : p (someW (bit n) wi) = true) : bestTo p wi (n + 1) = some (someW (bit n) wi) := by
  show bestStep p wi (bestTo p wi n) n = _
  unfold bestStep
  rw [h]
  show (if (fewerL (someW (bit n) wi) b && p (someW (bit n) wi)) = true then some (someW (bit n) wi) else some b) = _
  rw [hf, hp]
  simp
/-- What both answer. -/
def BestPost (w : World) (F : Option (List Int)) (E : Int) (e : Ending) (w' : World) : Prop :=
  Ext w w' ∧ ((F = none ∧ e = .returned (.tuple #[.slice none 0 0, .int .i64 E])) ∨ ∃ l A' c', F = some l ∧ e = .returned (.tuple #[.slice A' l.length c', .int .i64 0]) ∧ Ints w' A' l ∧ l.length ≤ 6)
theorem pow6 {N : Nat} (h : N ≤ 6) : 2 ^ N ≤ 64 ∧ 1 ≤ 2 ^ N := by
  have : 2 ^ N ≤ 2 ^ 6 := Nat.pow_le_pow_right (by decide) h
  exact ⟨by omega, Nat.one_le_two_pow⟩
theorem pow_cast (N : Nat) : (2 : Int) ^ N = ((2 ^ N : Nat) : Int) := by push_cast; rfl
theorem shl6 {N : Nat} (h : N ≤ 6) : wrap64 ((2 : Int) ^ N) = ((2 ^ N : Nat) : Int) := by
  have := pow6 h
  have e : (2 : Int) ^ N = ((2 ^ N : Nat) : Int) := by push_cast; rfl
  rw [e]
  unfold wrap64
  omega

set_option maxRecDepth 100000 in
set_option maxHeartbeats 4000000 in
theorem refliars_any (v : Value) (c : Cs) (w : World) (hc : CsR w v c) (hs : c.sized) (h0 : checkC c = 0) :
    Calls Try.prog 56 #[v] w (BestPost w (fewL (liarsP c) c.wi.toNat) 7) := by
  have hc' := hc
  obtain ⟨A1, c1, A2, c2, rfl, hB, hC⟩ := hc
  have hwi := (manyOK_parts (checkC_ok h0).1).2.2.2
  have HWI : Hid (0 ≤ c.wi ∧ c.wi ≤ 6) := ⟨hwi.1, hwi.2.1⟩
  have H0 := hid h0
  have HSZ := hid hs
  obtain ⟨N, hn⟩ : ∃ n : Nat, c.wi = n := ⟨c.wi.toNat, by omega⟩
  have HN : Hid (c.wi.toNat = N) := by unfold Hid; omega
  have hN6 : N ≤ 6 := by omega
  obtain ⟨p2, p1⟩ := pow6 hN6
  have hsh := shl6 hN6
  have HPS : Hid (∀ P : Nat → Bool, clashR (belT (rl N fun i => !P i)) c = !(liarsP c) (someW P N)) := fun P => by rw [← HN.out]; exact liarsP_set H0.out P
  obtain ⟨p, hp⟩ : ∃ p, liarsP c = p := ⟨_, rfl⟩
  rw [hp] at HPS
  rw [hp, HN.out, hn]
  obtain ⟨W0, hW0⟩ : ∃ W0, w.alloc (.cells #[.int .i64 c.ev, .slice A1 c.bs.length c1, .int .i64 (N : Int), .slice A2 c.cl.length c2] 72) = W0 := ⟨_, rfl⟩
  have hx0 : Ext w W0 := by rw [← hW0]; exact Ext.alloc (Ext.refl w) _
  have FX : Hid (∀ w', Ext W0 w' → w'.cell? ⟨w.heap.size, 0, none⟩ = some (.int .i64 c.ev) ∧ w'.cell? ⟨w.heap.size, 1, none⟩ = some (.slice A1 c.bs.length c1) ∧ w'.cell? ⟨w.heap.size, 2, none⟩ = some (.int .i64 (N : Int)) ∧ w'.cell? ⟨w.heap.size, 3, none⟩ = some (.slice A2 c.cl.length c2)) := fun w' h => ⟨h.cell (by rw [← hW0]; simp [go_sem]), h.cell (by rw [← hW0]; simp [go_sem]), h.cell (by rw [← hW0]; simp [go_sem]), h.cell (by rw [← hW0]; simp [go_sem])⟩
  have HCX : Hid (∀ w', Ext W0 w' → CsR w' (.agg #[.int .i64 c.ev, .slice A1 c.bs.length c1, .int .i64 (N : Int), .slice A2 c.cl.length c2]) c) := fun w' h => by rw [← hn]; exact hc'.ext (hx0.trans h)
  have hxa := hid hx0
  clear hwi hp hB hC hc' hs h0 hn
  go_enter Try.func56, Try.ntmps56
  go_wp2
  clear hx0
  try rw [hW0]
  clear hW0
  have hmk := fun w => run_make_row' (P := Try.prog) 77 4 (.bool false) 1 Try.underlying77 infoBool rfl .i64 .i64 N (by omega) (by omega) w
  have HMK := hid hmk
  clear hmk
  go_loopw [4, 5, 6, 7, 8, 9, 10] (fun s4 s5 s6 _ _ _ _ wr => ∃ (n : Nat) (s : Option (List Int)) (f : Bool), n ≤ 2 ^ N ∧ s6 = .int .i64 (n : Int) ∧ s5 = .bool f ∧ Hid (f = s.isSome) ∧ BestV wr s4 s ∧ Ext W0 wr ∧ Hid (bestTo p N n = s)) (fun _ _ s6 _ _ _ _ _ => 2 ^ N - (intOf s6).toNat)
  case atStart => exact ⟨0, none, false, Nat.zero_le _, rfl, rfl, rfl, rfl, Ext.refl _, rfl⟩
  case round =>
    obtain ⟨n, s, f, hn, rfl, rfl, HFS, hbv, hx, HS⟩ := hrel
    obtain ⟨q0, q1, q2, q3⟩ := FX.out _ hx
    by_cases hlt : n < 2 ^ N
    · have hlt' : (n : Int) < (2 : Int) ^ N := by rw [pow_cast]; omega
      have K := refset_any _ c n wr (HCX.out wr hx) HWI.out.1 HWI.out.2 (by omega)
      rw [HN.out] at K
      have HK := hid K
      clear K
      go_wp2_with fail
      clear q0 q1 q2 q3
      refine HK.out.mono ?_
      clear HK
      rintro e w1 ⟨g, rfl, -, hg, hx1⟩
      have h1 := hx.trans hx1
      have hbv1 := hbv.ext hx1
      obtain ⟨q0, q1, q2, q3⟩ := FX.out _ h1
      have hmk := HMK.out
      clear hbv hx hx1
      go_wp2
      clear hmk q0 q1 q2 q3
      obtain ⟨W2, hW2⟩ : ∃ W2, w1.alloc (.cells (madeCells #[.bool false] N) 4) = W2 := ⟨_, rfl⟩
      obtain ⟨G, hG⟩ : ∃ G, w1.heap.size = G := ⟨_, rfl⟩
      have hxW2 : Ext w1 W2 := by rw [← hW2]; exact Ext.alloc (Ext.refl _) _
      have hI0 : Brow W2 G (rl N fun x => decide (x < 0) && !bit n x) := by
        rw [← hG, show (fun x : Nat => decide (x < 0) && !bit n x) = fun _ => false from funext fun x => by simp, rl_const, ← hW2, made_brow]; exact World.alloc_heap_new _ _
      rw [hW2, hG]
      have HB1 : Hid (∀ w', Ext w1 w' → Bools w' (some ⟨g, 0, none⟩) (rl N (bit n))) := fun w' h => hg.bools.ext h
      have hG2 : w1.heap.size ≤ G := by omega
      clear hW2 hG hg
      obtain ⟨wo, rfl⟩ : ∃ wo : World, wo = wr := ⟨_, rfl⟩
      go_loopw [9] (fun i wr => ∃ k : Nat, k ≤ N ∧ i = .int .i64 (k : Int) ∧ Brow wr G (rl N fun x => decide (x < k) && !bit n x) ∧ Ext w1 wr) (fun i _ => N - (intOf i).toNat)
      case atStart => exact ⟨0, Nat.zero_le _, rfl, hI0, hxW2⟩
      case round =>
        obtain ⟨k, hk, rfl, hI, hx⟩ := hrel
        by_cases hltk : k < N
        · have hltk' : (k : Int) < (N : Int) := by omega
          obtain ⟨b1, o1, e1, g0⟩ := (HB1.out wr hx).at_ (rl_get (bit n) hltk)
          cases e1
          rw [Nat.zero_add] at g0
          have hcell := hI.at_ (rl_get _ hltk)
          have hfz := hI.frozen k
          have hI2 := hI.set k (!bit n k)
          rw [← rl_upd] at hI2
          have hfn : upd1 (fun x : Nat => decide (x < k) && !bit n x) k (!bit n k) = fun x : Nat => decide (x < k + 1) && !bit n x := by
            funext x; unfold upd1
            by_cases e : x = k
            · subst e; simp
            · rw [if_neg e]
              have hd : decide (x < k) = decide (x < k + 1) := by rw [decide_eq_decide]; omega
              show (decide (x < k) && !bit n x) = (decide (x < k + 1) && !bit n x)
              rw [hd]
          rw [hfn] at hI2
          have HI2 := hid hI2
          clear hfn hI2 hI
          generalize bit n k = q at *
          go_wp2
          go_roundw
          case rel => exact ⟨k + 1, by omega, by go_num, HI2.out, hx.setCell hG2 _⟩
          case measure => simp [intOf]; omega
        · have hltk' : ¬ (k : Int) < (N : Int) := by omega
          have hI2 : Brow wr G (rl N fun x => !bit n x) := by
            have e : rl N (fun x => decide (x < k) && !bit n x) = rl N fun x => !bit n x := List.map_congr_left fun x hx => by have := List.mem_range.1 hx; rw [decide_eq_true (by omega)]; rfl
            rw [e] at hI; exact hI
          have HB2 : Hid (∀ w', Ext wr w' → Bools w' (some ⟨G, 0, none⟩) (rl N fun x => !bit n x)) := fun w' h => hI2.bools.ext h
          have h3 := h1.trans hx
          have hbv3 := hbv1.ext hx
          have K := reflist_any (some ⟨g, 0, none⟩) N N (bit n) wr (HB1.out wr hx) (by omega)
          have HK := hid K
          clear K hI hI2 hbv1
          go_wp2_with fail
          refine HK.out.mono ?_
          clear HK
          rintro e w4 ⟨A5, k5, rfl, ho5, hx4⟩
          have hI5 : Ints w4 A5 (someW (bit n) N) := Rd.of_own ho5
          have h4 := h3.trans hx4
          have hbv4 := hbv3.ext hx4
          have hx4w := hx4
          have hl5 := someW_len (bit n) N
          have HPN := hid (HPS.out (bit n))
          clear ho5 h3 hbv3
          cases s with
          | none =>
            obtain rfl : f = false := HFS.out
            obtain rfl : _ = Value.slice none 0 0 := hbv4
            obtain ⟨q0, q1, q2, q3⟩ := FX.out _ h4
            have K := refclash_any _ c (some ⟨G, 0, none⟩) N (rl N fun x => !bit n x) w4 (HCX.out _ h4) HSZ.out H0.out (HB2.out _ hx4w) (by rw [rl_len, HN.out])
            rw [rl_len, HPN.out] at K
            have HK := hid K
            clear K
            go_wp2_with fail
            clear q0 q1 q2 q3
            refine HK.out.mono ?_
            clear HK
            rintro e w6 ⟨rfl, hx6⟩
            have h6 := (h4).trans hx6
            have HI56 := hI5.ext hx6
            cases hpl : p (someW (bit n) N)
            · have HS2 := hid (best_no HS.out hpl)
              go_wp2
              go_roundw
              case rel => exact ⟨n + 1, none, false, by omega, by go_num, rfl, rfl, rfl, h6, HS2.out⟩
              case measure => simp [intOf]; omega
            · have HS2 := hid (best_new HS.out hpl)
              go_wp2
              go_roundw
              case rel => exact ⟨n + 1, some (someW (bit n) N), true, by omega, by go_num, rfl, rfl, ⟨A5, k5, rfl, HI56, by omega⟩, h6, HS2.out⟩
              case measure => simp [intOf]; omega
          | some b =>
            obtain rfl : f = true := HFS.out
            obtain ⟨A6, k6, rfl, hI6, hl6⟩ := hbv4
            have K := refbefore_any A5 A6 k5 k6 (someW (bit n) N) b w4 hI5 hI6 (by omega) (by omega)
            cases hfw : fewerL (someW (bit n) N) b
            · rw [hfw] at K
              have HS2 := hid (best_no2 HS.out hfw)
              have HK := hid K
              clear K
              go_wp2_with fail
              refine HK.out.mono ?_
              clear HK
              rintro e w5 ⟨rfl, hx5⟩
              have hI65 := hI6.ext hx5
              go_wp2
              go_roundw
              case rel => exact ⟨n + 1, some b, true, by omega, by go_num, rfl, rfl, ⟨A6, k6, rfl, hI65, hl6⟩, h4.trans hx5, HS2.out⟩
              case measure => simp [intOf]; omega
            · rw [hfw] at K
              have HK := hid K
              clear K
              go_wp2_with fail
              refine HK.out.mono ?_
              clear HK
              rintro e w5 ⟨rfl, hx5⟩
              have h5 := h4.trans hx5
              obtain ⟨q0, q1, q2, q3⟩ := FX.out _ h5
              have K := refclash_any _ c (some ⟨G, 0, none⟩) N (rl N fun x => !bit n x) w5 (HCX.out _ h5) HSZ.out H0.out (HB2.out _ (hx4w.trans hx5)) (by rw [rl_len, HN.out])
              rw [rl_len, HPN.out] at K
              have HK := hid K
              clear K
              go_wp2_with fail
              clear q0 q1 q2 q3
              refine HK.out.mono ?_
              clear HK
              rintro e w6 ⟨rfl, hx6⟩
              have h6 := (h5).trans hx6
              have HI56 := (hI5.ext hx5).ext hx6
              have hI66 := (hI6.ext hx5).ext hx6
              cases hpl : p (someW (bit n) N)
              · have HS2 := hid (best_no HS.out hpl)
                go_wp2
                go_roundw
                case rel => exact ⟨n + 1, some b, true, by omega, by go_num, rfl, rfl, ⟨A6, k6, rfl, hI66, hl6⟩, h6, HS2.out⟩
                case measure => simp [intOf]; omega
              · have HS2 := hid (best_new2 HS.out hfw hpl)
                go_wp2
                go_roundw
                case rel => exact ⟨n + 1, some (someW (bit n) N), true, by omega, by go_num, rfl, rfl, ⟨A5, k5, rfl, HI56, by omega⟩, h6, HS2.out⟩
                case measure => simp [intOf]; omega
    · have hlt' : ¬ (n : Int) < (2 : Int) ^ N := by rw [pow_cast]; omega
      obtain rfl : n = 2 ^ N := by omega
      have HF : Hid (fewL p N = s) := by unfold Hid; rw [← HS.out, best_is]
      have hxx := hxa.out.trans hx
      cases s with
      | none =>
        obtain rfl : f = false := HFS.out
        obtain rfl : _ = Value.slice none 0 0 := hbv
        go_wp2
        go_ret2
        exact ⟨hxx, .inl ⟨HF.out, rfl⟩⟩
      | some b =>
        obtain rfl : f = true := HFS.out
        obtain ⟨A6, k6, rfl, hI6, hl6⟩ := hbv
        have HI6 := hid hI6
        clear hI6
        go_wp2
        go_ret2
        exact ⟨hxx, .inr ⟨b, A6, k6, HF.out, rfl, HI6.out, hl6⟩⟩
set_option maxRecDepth 100000 in
set_option maxHeartbeats 4000000 in
theorem refneeded_any (v : Value) (c : Cs) (a b : Nat) (w : World) (hc : CsR w v c) (hs : c.sized) (h0 : checkC c = 0) (hcl : clashM (gapsM allT c) = false) (ha : (a : Int) < c.ev) (hb : (b : Int) < c.ev) :
    Calls Try.prog 57 #[v, .int .i64 (a : Int), .int .i64 (b : Int)] w (BestPost w (fewL (neededP c a b) c.wi.toNat) 6) := by
  have hc' := hc
  obtain ⟨A1, c1, A2, c2, rfl, hB, hC⟩ := hc
  have hwi := (manyOK_parts (checkC_ok h0).1).2.2.2
  have HWI : Hid (0 ≤ c.wi ∧ c.wi ≤ 6) := ⟨hwi.1, hwi.2.1⟩
  have H0 := hid h0
  have HSZ := hid hs
  obtain ⟨N, hn⟩ : ∃ n : Nat, c.wi = n := ⟨c.wi.toNat, by omega⟩
  have HN : Hid (c.wi.toNat = N) := by unfold Hid; omega
  have hN6 : N ≤ 6 := by omega
  obtain ⟨p2, p1⟩ := pow6 hN6
  have hsh := shl6 hN6
  have HPS : Hid (∀ P : Nat → Bool, yesR (belT (rl N P)) c a b = (neededP c a b) (someW P N)) := fun P => by rw [← HN.out]; exact neededP_set H0.out hcl ha hb P
  have HA := hid ha
  have HB := hid hb
  clear hcl ha hb
  obtain ⟨p, hp⟩ : ∃ p, neededP c a b = p := ⟨_, rfl⟩
  rw [hp] at HPS
  rw [hp, HN.out, hn]
  obtain ⟨W0, hW0⟩ : ∃ W0, w.alloc (.cells #[.int .i64 c.ev, .slice A1 c.bs.length c1, .int .i64 (N : Int), .slice A2 c.cl.length c2] 72) = W0 := ⟨_, rfl⟩
  have hx0 : Ext w W0 := by rw [← hW0]; exact Ext.alloc (Ext.refl w) _
  have FX : Hid (∀ w', Ext W0 w' → w'.cell? ⟨w.heap.size, 0, none⟩ = some (.int .i64 c.ev) ∧ w'.cell? ⟨w.heap.size, 1, none⟩ = some (.slice A1 c.bs.length c1) ∧ w'.cell? ⟨w.heap.size, 2, none⟩ = some (.int .i64 (N : Int)) ∧ w'.cell? ⟨w.heap.size, 3, none⟩ = some (.slice A2 c.cl.length c2)) := fun w' h => ⟨h.cell (by rw [← hW0]; simp [go_sem]), h.cell (by rw [← hW0]; simp [go_sem]), h.cell (by rw [← hW0]; simp [go_sem]), h.cell (by rw [← hW0]; simp [go_sem])⟩
  have HCX : Hid (∀ w', Ext W0 w' → CsR w' (.agg #[.int .i64 c.ev, .slice A1 c.bs.length c1, .int .i64 (N : Int), .slice A2 c.cl.length c2]) c) := fun w' h => by rw [← hn]; exact hc'.ext (hx0.trans h)
  have hxa := hid hx0
  clear hwi hp hB hC hc' hs h0 hn
  go_enter Try.func57, Try.ntmps57
  go_wp2
  clear hx0
  try rw [hW0]
  clear hW0
  go_loopw [8, 9, 10, 11] (fun s4 s5 s6 _ wr => ∃ (n : Nat) (s : Option (List Int)) (f : Bool), n ≤ 2 ^ N ∧ s6 = .int .i64 (n : Int) ∧ s5 = .bool f ∧ Hid (f = s.isSome) ∧ BestV wr s4 s ∧ Ext W0 wr ∧ Hid (bestTo p N n = s)) (fun _ _ s6 _ _ => 2 ^ N - (intOf s6).toNat)
  case atStart => exact ⟨0, none, false, Nat.zero_le _, rfl, rfl, rfl, rfl, Ext.refl _, rfl⟩
  case round =>
    obtain ⟨n, s, f, hn, rfl, rfl, HFS, hbv, hx, HS⟩ := hrel
    obtain ⟨q0, q1, q2, q3⟩ := FX.out _ hx
    by_cases hlt : n < 2 ^ N
    · have hlt' : (n : Int) < (2 : Int) ^ N := by rw [pow_cast]; omega
      have K := refset_any _ c n wr (HCX.out wr hx) HWI.out.1 HWI.out.2 (by omega)
      rw [HN.out] at K
      have HK := hid K
      clear K
      go_wp2_with fail
      clear q0 q1 q2 q3
      refine HK.out.mono ?_
      clear HK
      rintro e w1 ⟨g, rfl, -, hg, hx1⟩
      have h1 := hx.trans hx1
      have hbv1 := hbv.ext hx1
      have K := reflist_any (some ⟨g, 0, none⟩) N N (bit n) w1 hg.bools (by omega)
      have HK := hid K
      clear K hbv hx hg
      go_wp2_with fail
      refine HK.out.mono ?_
      clear HK
      rintro e w4 ⟨A5, k5, rfl, ho5, hx4⟩
      have hI5 : Ints w4 A5 (someW (bit n) N) := Rd.of_own ho5
      have h4 := h1.trans hx4
      have hbv4 := hbv1.ext hx4
      have hl5 := someW_len (bit n) N
      have HPN := hid (HPS.out (bit n))
      clear ho5 h1 hbv1 hx1 hx4
      cases s with
      | none =>
        obtain rfl : f = false := HFS.out
        obtain rfl : _ = Value.slice none 0 0 := hbv4
        cases hpl : p (someW (bit n) N)
        · go_wp2
          refine wp_region_shut Ext (fun w' => Ext w4 w') (fun | 11 => some (fun v w' => ∃ B, v = .slice (some ⟨B, 0, none⟩) N N ∧ Bools w' (some ⟨B, 0, none⟩) (rl N (bit n))) | 14 => some (fun v _ => v = .bool false) | _ => none) (by kernel_rfl) (by kernel_rfl) (fun _ _ h k => h.trans k) ?hT1 (Ext.drew (Ext.refl w4)) ?_
          case hT1 =>
            intro i R hR
            match i, hR with
            | 11, hR => cases hR; exact fun _ _ _ ⟨B, e, h⟩ k => ⟨B, e, h.ext k⟩
            | 14, hR => cases hR; exact fun _ _ _ h _ => h
          refine wM_val ?ur1_0 rfl rfl Ext.refl (fun w' hD => ?hr1_0) (fun phr1_0 => ?nr1_0)
          case hr1_0 =>
            obtain ⟨d0, d1, d2, d3⟩ := FX.out _ (h4.trans hD.1)
            go_simp; rfl
          simp only [Act.put, List.setIfInBounds_toArray, List.set_cons_succ, List.set_cons_zero, Nat.reduceAdd]
          refine wM_val ?ur1_1 rfl rfl Ext.refl (fun w' hD => ?hr1_1) (fun phr1_1 => ?nr1_1)
          case hr1_1 =>
            obtain ⟨d0, d1, d2, d3⟩ := FX.out _ (h4.trans hD.1)
            go_simp; rfl
          simp only [Act.put, List.setIfInBounds_toArray, List.set_cons_succ, List.set_cons_zero, Nat.reduceAdd]
          refine wM_val ?ur1_2 rfl rfl Ext.refl (fun w' hD => ?hr1_2) (fun phr1_2 => ?nr1_2)
          case hr1_2 =>
            obtain ⟨d0, d1, d2, d3⟩ := FX.out _ (h4.trans hD.1)
            go_simp; rfl
          simp only [Act.put, List.setIfInBounds_toArray, List.set_cons_succ, List.set_cons_zero, Nat.reduceAdd]
          refine wM_skip rfl ?_
          simp only [Act.put, List.setIfInBounds_toArray, List.set_cons_succ, List.set_cons_zero, Nat.reduceAdd]
          refine wM_skip rfl ?_
          simp only [Act.put, List.setIfInBounds_toArray, List.set_cons_succ, List.set_cons_zero, Nat.reduceAdd]
          refine wM_skip rfl ?_
          simp only [Act.put, List.setIfInBounds_toArray, List.set_cons_succ, List.set_cons_zero, Nat.reduceAdd]
          refine wM_val ?ur1_6 rfl rfl Ext.refl (fun w' hD => ?hr1_6) (fun phr1_6 => ?nr1_6)
          case hr1_6 =>
            obtain ⟨d0, d1, d2, d3⟩ := FX.out _ (h4.trans hD.1)
            go_simp; rfl
          simp only [Act.put, List.setIfInBounds_toArray, List.set_cons_succ, List.set_cons_zero, Nat.reduceAdd]
          refine wM_val ?ur1_7 rfl rfl Ext.refl (fun w' hD => ?hr1_7) (fun phr1_7 => ?nr1_7)
          case hr1_7 =>
            obtain ⟨d0, d1, d2, d3⟩ := FX.out _ (h4.trans hD.1)
            go_simp; rfl
          simp only [Act.put, List.setIfInBounds_toArray, List.set_cons_succ, List.set_cons_zero, Nat.reduceAdd]
          refine wM_val ?ur1_8 rfl rfl Ext.refl (fun w' hD => ?hr1_8) (fun phr1_8 => ?nr1_8)
          case hr1_8 =>
            obtain ⟨d0, d1, d2, d3⟩ := FX.out _ (h4.trans hD.1)
            go_simp; rfl
          simp only [Act.put, List.setIfInBounds_toArray, List.set_cons_succ, List.set_cons_zero, Nat.reduceAdd]
          refine wM_val ?ur1_9 rfl rfl Ext.refl (fun w' hD => ?hr1_9) (fun phr1_9 => ?nr1_9)
          case hr1_9 =>
            obtain ⟨d0, d1, d2, d3⟩ := FX.out _ (h4.trans hD.1)
            go_simp; rfl
          simp only [Act.put, List.setIfInBounds_toArray, List.set_cons_succ, List.set_cons_zero, Nat.reduceAdd]
          refine wM_val ?ur1_10 rfl rfl Ext.refl (fun w' hD => ?hr1_10) (fun phr1_10 => ?nr1_10)
          case hr1_10 =>
            obtain ⟨d0, d1, d2, d3⟩ := FX.out _ (h4.trans hD.1)
            go_simp; rfl
          simp only [Act.put, List.setIfInBounds_toArray, List.set_cons_succ, List.set_cons_zero, Nat.reduceAdd]
          refine wM_op _ rfl rfl (opens_call ?fr1_11 ?gr1_11 (fun w' hD => ?hr1_11) (fun w' hD => ?cr1_11)) (fun v11 hv11 => ?nr1_11)
          case hr1_11 => go_simp; constructor <;> rfl
          case cr1_11 =>
            have K := refset_any _ c n w' (HCX.out w' (h4.trans hD.1)) HWI.out.1 HWI.out.2 (by omega)
            rw [HN.out] at K
            refine K.mono ?_
            rintro e w2 ⟨B, rfl, -, hB, hb⟩
            exact ⟨_, rfl, hb, B, rfl, hB.bools⟩
          obtain ⟨_, -, -, Be, rfl, -⟩ := hv11
          simp only [Act.put, List.setIfInBounds_toArray, List.set_cons_succ, List.set_cons_zero, Nat.reduceAdd]
          refine wM_val ?ur1_12 rfl rfl Ext.refl (fun w' hD => ?hr1_12) (fun phr1_12 => ?nr1_12)
          case hr1_12 =>
            obtain ⟨d0, d1, d2, d3⟩ := FX.out _ (h4.trans hD.1)
            go_simp; rfl
          simp only [Act.put, List.setIfInBounds_toArray, List.set_cons_succ, List.set_cons_zero, Nat.reduceAdd]
          refine wM_val ?ur1_13 rfl rfl Ext.refl (fun w' hD => ?hr1_13) (fun phr1_13 => ?nr1_13)
          case hr1_13 =>
            obtain ⟨d0, d1, d2, d3⟩ := FX.out _ (h4.trans hD.1)
            go_simp; rfl
          simp only [Act.put, List.setIfInBounds_toArray, List.set_cons_succ, List.set_cons_zero, Nat.reduceAdd]
          refine wM_op _ rfl rfl (opens_call ?fr1_14 ?gr1_14 (fun w' hD => ?hr1_14) (fun w' hD => ?cr1_14)) (fun v14 hv14 => ?nr1_14)
          case hr1_14 => go_simp; constructor <;> rfl
          case cr1_14 =>
            obtain ⟨-, B9, e9, hB9⟩ := hD.get 11 (by first | kernel_rfl | simp [Region.binds])
            cases e9
            have K := refyes_any _ c (some ⟨Be, 0, none⟩) N (rl N (bit n)) a b w' (HCX.out w' (h4.trans hD.1)) HSZ.out H0.out hB9 (by rw [rl_len, HN.out]) HA.out HB.out
            rw [rl_len, HPN.out, hpl] at K
            refine K.mono ?_
            rintro e w2 ⟨rfl, hb⟩
            exact ⟨_, rfl, hb, rfl⟩
          obtain ⟨_, -, -, rfl⟩ := hv14
          simp only [Act.put, List.setIfInBounds_toArray, List.set_cons_succ, List.set_cons_zero, Nat.reduceAdd]
          refine wM_val ?ur1_15 rfl rfl Ext.refl (fun w' hD => ?hr1_15) (fun phr1_15 => ?nr1_15)
          case hr1_15 =>
            obtain ⟨d0, d1, d2, d3⟩ := FX.out _ (h4.trans hD.1)
            go_simp; rfl
          simp only [Act.put, List.setIfInBounds_toArray, List.set_cons_succ, List.set_cons_zero, Nat.reduceAdd]
          refine wM_nil ?_
          intro w6 hx6 hF9
          clear hF9
          have h6 := h4.trans hx6
          have HS2 := hid (best_no HS.out hpl)
          go_wp2
          go_roundw
          case rel => exact ⟨n + 1, none, false, by omega, by go_num, rfl, rfl, rfl, h6, HS2.out⟩
          case measure => simp [intOf]; omega
        · go_wp2
          refine wp_region_shut Ext (fun w' => Ext w4 w') (fun | 11 => some (fun v w' => ∃ B, v = .slice (some ⟨B, 0, none⟩) N N ∧ Bools w' (some ⟨B, 0, none⟩) (rl N (bit n))) | 14 => some (fun v _ => v = .bool true) | _ => none) (by kernel_rfl) (by kernel_rfl) (fun _ _ h k => h.trans k) ?hT2 (Ext.drew (Ext.refl w4)) ?_
          case hT2 =>
            intro i R hR
            match i, hR with
            | 11, hR => cases hR; exact fun _ _ _ ⟨B, e, h⟩ k => ⟨B, e, h.ext k⟩
            | 14, hR => cases hR; exact fun _ _ _ h _ => h
          refine wM_val ?ur2_0 rfl rfl Ext.refl (fun w' hD => ?hr2_0) (fun phr2_0 => ?nr2_0)
          case hr2_0 =>
            obtain ⟨d0, d1, d2, d3⟩ := FX.out _ (h4.trans hD.1)
            go_simp; rfl
          simp only [Act.put, List.setIfInBounds_toArray, List.set_cons_succ, List.set_cons_zero, Nat.reduceAdd]
          refine wM_val ?ur2_1 rfl rfl Ext.refl (fun w' hD => ?hr2_1) (fun phr2_1 => ?nr2_1)
          case hr2_1 =>
            obtain ⟨d0, d1, d2, d3⟩ := FX.out _ (h4.trans hD.1)
            go_simp; rfl
          simp only [Act.put, List.setIfInBounds_toArray, List.set_cons_succ, List.set_cons_zero, Nat.reduceAdd]
          refine wM_val ?ur2_2 rfl rfl Ext.refl (fun w' hD => ?hr2_2) (fun phr2_2 => ?nr2_2)
          case hr2_2 =>
            obtain ⟨d0, d1, d2, d3⟩ := FX.out _ (h4.trans hD.1)
            go_simp; rfl
          simp only [Act.put, List.setIfInBounds_toArray, List.set_cons_succ, List.set_cons_zero, Nat.reduceAdd]
          refine wM_skip rfl ?_
          simp only [Act.put, List.setIfInBounds_toArray, List.set_cons_succ, List.set_cons_zero, Nat.reduceAdd]
          refine wM_skip rfl ?_
          simp only [Act.put, List.setIfInBounds_toArray, List.set_cons_succ, List.set_cons_zero, Nat.reduceAdd]
          refine wM_skip rfl ?_
          simp only [Act.put, List.setIfInBounds_toArray, List.set_cons_succ, List.set_cons_zero, Nat.reduceAdd]
          refine wM_val ?ur2_6 rfl rfl Ext.refl (fun w' hD => ?hr2_6) (fun phr2_6 => ?nr2_6)
          case hr2_6 =>
            obtain ⟨d0, d1, d2, d3⟩ := FX.out _ (h4.trans hD.1)
            go_simp; rfl
          simp only [Act.put, List.setIfInBounds_toArray, List.set_cons_succ, List.set_cons_zero, Nat.reduceAdd]
          refine wM_val ?ur2_7 rfl rfl Ext.refl (fun w' hD => ?hr2_7) (fun phr2_7 => ?nr2_7)
          case hr2_7 =>
            obtain ⟨d0, d1, d2, d3⟩ := FX.out _ (h4.trans hD.1)
            go_simp; rfl
          simp only [Act.put, List.setIfInBounds_toArray, List.set_cons_succ, List.set_cons_zero, Nat.reduceAdd]
          refine wM_val ?ur2_8 rfl rfl Ext.refl (fun w' hD => ?hr2_8) (fun phr2_8 => ?nr2_8)
          case hr2_8 =>
            obtain ⟨d0, d1, d2, d3⟩ := FX.out _ (h4.trans hD.1)
            go_simp; rfl
          simp only [Act.put, List.setIfInBounds_toArray, List.set_cons_succ, List.set_cons_zero, Nat.reduceAdd]
          refine wM_val ?ur2_9 rfl rfl Ext.refl (fun w' hD => ?hr2_9) (fun phr2_9 => ?nr2_9)
          case hr2_9 =>
            obtain ⟨d0, d1, d2, d3⟩ := FX.out _ (h4.trans hD.1)
            go_simp; rfl
          simp only [Act.put, List.setIfInBounds_toArray, List.set_cons_succ, List.set_cons_zero, Nat.reduceAdd]
          refine wM_val ?ur2_10 rfl rfl Ext.refl (fun w' hD => ?hr2_10) (fun phr2_10 => ?nr2_10)
          case hr2_10 =>
            obtain ⟨d0, d1, d2, d3⟩ := FX.out _ (h4.trans hD.1)
            go_simp; rfl
          simp only [Act.put, List.setIfInBounds_toArray, List.set_cons_succ, List.set_cons_zero, Nat.reduceAdd]
          refine wM_op _ rfl rfl (opens_call ?fr2_11 ?gr2_11 (fun w' hD => ?hr2_11) (fun w' hD => ?cr2_11)) (fun v11 hv11 => ?nr2_11)
          case hr2_11 => go_simp; constructor <;> rfl
          case cr2_11 =>
            have K := refset_any _ c n w' (HCX.out w' (h4.trans hD.1)) HWI.out.1 HWI.out.2 (by omega)
            rw [HN.out] at K
            refine K.mono ?_
            rintro e w2 ⟨B, rfl, -, hB, hb⟩
            exact ⟨_, rfl, hb, B, rfl, hB.bools⟩
          obtain ⟨_, -, -, Be, rfl, -⟩ := hv11
          simp only [Act.put, List.setIfInBounds_toArray, List.set_cons_succ, List.set_cons_zero, Nat.reduceAdd]
          refine wM_val ?ur2_12 rfl rfl Ext.refl (fun w' hD => ?hr2_12) (fun phr2_12 => ?nr2_12)
          case hr2_12 =>
            obtain ⟨d0, d1, d2, d3⟩ := FX.out _ (h4.trans hD.1)
            go_simp; rfl
          simp only [Act.put, List.setIfInBounds_toArray, List.set_cons_succ, List.set_cons_zero, Nat.reduceAdd]
          refine wM_val ?ur2_13 rfl rfl Ext.refl (fun w' hD => ?hr2_13) (fun phr2_13 => ?nr2_13)
          case hr2_13 =>
            obtain ⟨d0, d1, d2, d3⟩ := FX.out _ (h4.trans hD.1)
            go_simp; rfl
          simp only [Act.put, List.setIfInBounds_toArray, List.set_cons_succ, List.set_cons_zero, Nat.reduceAdd]
          refine wM_op _ rfl rfl (opens_call ?fr2_14 ?gr2_14 (fun w' hD => ?hr2_14) (fun w' hD => ?cr2_14)) (fun v14 hv14 => ?nr2_14)
          case hr2_14 => go_simp; constructor <;> rfl
          case cr2_14 =>
            obtain ⟨-, B9, e9, hB9⟩ := hD.get 11 (by first | kernel_rfl | simp [Region.binds])
            cases e9
            have K := refyes_any _ c (some ⟨Be, 0, none⟩) N (rl N (bit n)) a b w' (HCX.out w' (h4.trans hD.1)) HSZ.out H0.out hB9 (by rw [rl_len, HN.out]) HA.out HB.out
            rw [rl_len, HPN.out, hpl] at K
            refine K.mono ?_
            rintro e w2 ⟨rfl, hb⟩
            exact ⟨_, rfl, hb, rfl⟩
          obtain ⟨_, -, -, rfl⟩ := hv14
          simp only [Act.put, List.setIfInBounds_toArray, List.set_cons_succ, List.set_cons_zero, Nat.reduceAdd]
          refine wM_val ?ur2_15 rfl rfl Ext.refl (fun w' hD => ?hr2_15) (fun phr2_15 => ?nr2_15)
          case hr2_15 =>
            obtain ⟨d0, d1, d2, d3⟩ := FX.out _ (h4.trans hD.1)
            go_simp; rfl
          simp only [Act.put, List.setIfInBounds_toArray, List.set_cons_succ, List.set_cons_zero, Nat.reduceAdd]
          refine wM_nil ?_
          intro w6 hx6 hF9
          clear hF9
          have h6 := h4.trans hx6
          have HS2 := hid (best_new HS.out hpl)
          have HI56 := hI5.ext hx6
          go_wp2
          go_roundw
          case rel => exact ⟨n + 1, some (someW (bit n) N), true, by omega, by go_num, rfl, rfl, ⟨A5, k5, rfl, HI56, by omega⟩, h6, HS2.out⟩
          case measure => simp [intOf]; omega
      | some b' =>
        obtain rfl : f = true := HFS.out
        obtain ⟨A6, k6, rfl, hI6, hl6⟩ := hbv4
        cases hfw : fewerL (someW (bit n) N) b'
        · go_wp2
          refine wp_region_shut Ext (fun w' => Ext w4 w') (fun | 5 => some (fun v _ => v = .bool false) | _ => none) (by kernel_rfl) (by kernel_rfl) (fun _ _ h k => h.trans k) ?hT3 (Ext.drew (Ext.refl w4)) ?_
          case hT3 =>
            intro i R hR
            match i, hR with
            | 5, hR => cases hR; exact fun _ _ _ h _ => h
          refine wM_val ?ur3_0 rfl rfl Ext.refl (fun w' hD => ?hr3_0) (fun phr3_0 => ?nr3_0)
          case hr3_0 =>
            obtain ⟨d0, d1, d2, d3⟩ := FX.out _ (h4.trans hD.1)
            go_simp; rfl
          simp only [Act.put, List.setIfInBounds_toArray, List.set_cons_succ, List.set_cons_zero, Nat.reduceAdd]
          refine wM_val ?ur3_1 rfl rfl Ext.refl (fun w' hD => ?hr3_1) (fun phr3_1 => ?nr3_1)
          case hr3_1 =>
            obtain ⟨d0, d1, d2, d3⟩ := FX.out _ (h4.trans hD.1)
            go_simp; rfl
          simp only [Act.put, List.setIfInBounds_toArray, List.set_cons_succ, List.set_cons_zero, Nat.reduceAdd]
          refine wM_val ?ur3_2 rfl rfl Ext.refl (fun w' hD => ?hr3_2) (fun phr3_2 => ?nr3_2)
          case hr3_2 =>
            obtain ⟨d0, d1, d2, d3⟩ := FX.out _ (h4.trans hD.1)
            go_simp; rfl
          simp only [Act.put, List.setIfInBounds_toArray, List.set_cons_succ, List.set_cons_zero, Nat.reduceAdd]
          refine wM_val ?ur3_3 rfl rfl Ext.refl (fun w' hD => ?hr3_3) (fun phr3_3 => ?nr3_3)
          case hr3_3 =>
            obtain ⟨d0, d1, d2, d3⟩ := FX.out _ (h4.trans hD.1)
            go_simp; rfl
          simp only [Act.put, List.setIfInBounds_toArray, List.set_cons_succ, List.set_cons_zero, Nat.reduceAdd]
          refine wM_val ?ur3_4 rfl rfl Ext.refl (fun w' hD => ?hr3_4) (fun phr3_4 => ?nr3_4)
          case hr3_4 =>
            obtain ⟨d0, d1, d2, d3⟩ := FX.out _ (h4.trans hD.1)
            go_simp; rfl
          simp only [Act.put, List.setIfInBounds_toArray, List.set_cons_succ, List.set_cons_zero, Nat.reduceAdd]
          refine wM_op _ rfl rfl (opens_call ?fr3_5 ?gr3_5 (fun w' hD => ?hr3_5) (fun w' hD => ?cr3_5)) (fun v5 hv5 => ?nr3_5)
          case hr3_5 => go_simp; constructor <;> rfl
          case cr3_5 =>
            have K := refbefore_any A5 A6 k5 k6 (someW (bit n) N) b' w' (hI5.ext hD.1) (hI6.ext hD.1) (by omega) (by omega)
            rw [hfw] at K
            refine K.mono ?_
            rintro e w2 ⟨rfl, hb⟩
            exact ⟨_, rfl, hb, rfl⟩
          obtain ⟨_, -, -, rfl⟩ := hv5
          simp only [Act.put, List.setIfInBounds_toArray, List.set_cons_succ, List.set_cons_zero, Nat.reduceAdd]
          refine wM_val ?ur3_6 rfl rfl Ext.refl (fun w' hD => ?hr3_6) (fun phr3_6 => ?nr3_6)
          case hr3_6 =>
            obtain ⟨d0, d1, d2, d3⟩ := FX.out _ (h4.trans hD.1)
            go_simp; rfl
          simp only [Act.put, List.setIfInBounds_toArray, List.set_cons_succ, List.set_cons_zero, Nat.reduceAdd]
          refine wM_val ?ur3_7 rfl rfl Ext.refl (fun w' hD => ?hr3_7) (fun phr3_7 => ?nr3_7)
          case hr3_7 =>
            obtain ⟨d0, d1, d2, d3⟩ := FX.out _ (h4.trans hD.1)
            go_simp; rfl
          simp only [Act.put, List.setIfInBounds_toArray, List.set_cons_succ, List.set_cons_zero, Nat.reduceAdd]
          refine wM_skip rfl ?_
          simp only [Act.put, List.setIfInBounds_toArray, List.set_cons_succ, List.set_cons_zero, Nat.reduceAdd]
          refine wM_skip rfl ?_
          simp only [Act.put, List.setIfInBounds_toArray, List.set_cons_succ, List.set_cons_zero, Nat.reduceAdd]
          refine wM_skip rfl ?_
          simp only [Act.put, List.setIfInBounds_toArray, List.set_cons_succ, List.set_cons_zero, Nat.reduceAdd]
          refine wM_skip rfl ?_
          simp only [Act.put, List.setIfInBounds_toArray, List.set_cons_succ, List.set_cons_zero, Nat.reduceAdd]
          refine wM_skip rfl ?_
          simp only [Act.put, List.setIfInBounds_toArray, List.set_cons_succ, List.set_cons_zero, Nat.reduceAdd]
          refine wM_skip rfl ?_
          simp only [Act.put, List.setIfInBounds_toArray, List.set_cons_succ, List.set_cons_zero, Nat.reduceAdd]
          refine wM_skip rfl ?_
          simp only [Act.put, List.setIfInBounds_toArray, List.set_cons_succ, List.set_cons_zero, Nat.reduceAdd]
          refine wM_val ?ur3_15 rfl rfl Ext.refl (fun w' hD => ?hr3_15) (fun phr3_15 => ?nr3_15)
          case hr3_15 =>
            obtain ⟨d0, d1, d2, d3⟩ := FX.out _ (h4.trans hD.1)
            go_simp; rfl
          simp only [Act.put, List.setIfInBounds_toArray, List.set_cons_succ, List.set_cons_zero, Nat.reduceAdd]
          refine wM_nil ?_
          intro w6 hx6 hF9
          clear hF9
          have h6 := h4.trans hx6
          have HS2 := hid (best_no2 HS.out hfw)
          have HI66 := hI6.ext hx6
          go_wp2
          go_roundw
          case rel => exact ⟨n + 1, some b', true, by omega, by go_num, rfl, rfl, ⟨A6, k6, rfl, HI66, hl6⟩, h6, HS2.out⟩
          case measure => simp [intOf]; omega
        · cases hpl : p (someW (bit n) N)
          · go_wp2
            refine wp_region_shut Ext (fun w' => Ext w4 w') (fun | 5 => some (fun v _ => v = .bool true) | 11 => some (fun v w' => ∃ B, v = .slice (some ⟨B, 0, none⟩) N N ∧ Bools w' (some ⟨B, 0, none⟩) (rl N (bit n))) | 14 => some (fun v _ => v = .bool false) | _ => none) (by kernel_rfl) (by kernel_rfl) (fun _ _ h k => h.trans k) ?hT4 (Ext.drew (Ext.refl w4)) ?_
            case hT4 =>
              intro i R hR
              match i, hR with
              | 5, hR => cases hR; exact fun _ _ _ h _ => h
              | 11, hR => cases hR; exact fun _ _ _ ⟨B, e, h⟩ k => ⟨B, e, h.ext k⟩
              | 14, hR => cases hR; exact fun _ _ _ h _ => h
            refine wM_val ?ur4_0 rfl rfl Ext.refl (fun w' hD => ?hr4_0) (fun phr4_0 => ?nr4_0)
            case hr4_0 =>
              obtain ⟨d0, d1, d2, d3⟩ := FX.out _ (h4.trans hD.1)
              go_simp; rfl
            simp only [Act.put, List.setIfInBounds_toArray, List.set_cons_succ, List.set_cons_zero, Nat.reduceAdd]
            refine wM_val ?ur4_1 rfl rfl Ext.refl (fun w' hD => ?hr4_1) (fun phr4_1 => ?nr4_1)
            case hr4_1 =>
              obtain ⟨d0, d1, d2, d3⟩ := FX.out _ (h4.trans hD.1)
              go_simp; rfl
            simp only [Act.put, List.setIfInBounds_toArray, List.set_cons_succ, List.set_cons_zero, Nat.reduceAdd]
            refine wM_val ?ur4_2 rfl rfl Ext.refl (fun w' hD => ?hr4_2) (fun phr4_2 => ?nr4_2)
            case hr4_2 =>
              obtain ⟨d0, d1, d2, d3⟩ := FX.out _ (h4.trans hD.1)
              go_simp; rfl
            simp only [Act.put, List.setIfInBounds_toArray, List.set_cons_succ, List.set_cons_zero, Nat.reduceAdd]
            refine wM_val ?ur4_3 rfl rfl Ext.refl (fun w' hD => ?hr4_3) (fun phr4_3 => ?nr4_3)
            case hr4_3 =>
              obtain ⟨d0, d1, d2, d3⟩ := FX.out _ (h4.trans hD.1)
              go_simp; rfl
            simp only [Act.put, List.setIfInBounds_toArray, List.set_cons_succ, List.set_cons_zero, Nat.reduceAdd]
            refine wM_val ?ur4_4 rfl rfl Ext.refl (fun w' hD => ?hr4_4) (fun phr4_4 => ?nr4_4)
            case hr4_4 =>
              obtain ⟨d0, d1, d2, d3⟩ := FX.out _ (h4.trans hD.1)
              go_simp; rfl
            simp only [Act.put, List.setIfInBounds_toArray, List.set_cons_succ, List.set_cons_zero, Nat.reduceAdd]
            refine wM_op _ rfl rfl (opens_call ?fr4_5 ?gr4_5 (fun w' hD => ?hr4_5) (fun w' hD => ?cr4_5)) (fun v5 hv5 => ?nr4_5)
            case hr4_5 => go_simp; constructor <;> rfl
            case cr4_5 =>
              have K := refbefore_any A5 A6 k5 k6 (someW (bit n) N) b' w' (hI5.ext hD.1) (hI6.ext hD.1) (by omega) (by omega)
              rw [hfw] at K
              refine K.mono ?_
              rintro e w2 ⟨rfl, hb⟩
              exact ⟨_, rfl, hb, rfl⟩
            obtain ⟨_, -, -, rfl⟩ := hv5
            simp only [Act.put, List.setIfInBounds_toArray, List.set_cons_succ, List.set_cons_zero, Nat.reduceAdd]
            refine wM_val ?ur4_6 rfl rfl Ext.refl (fun w' hD => ?hr4_6) (fun phr4_6 => ?nr4_6)
            case hr4_6 =>
              obtain ⟨d0, d1, d2, d3⟩ := FX.out _ (h4.trans hD.1)
              go_simp; rfl
            simp only [Act.put, List.setIfInBounds_toArray, List.set_cons_succ, List.set_cons_zero, Nat.reduceAdd]
            refine wM_val ?ur4_7 rfl rfl Ext.refl (fun w' hD => ?hr4_7) (fun phr4_7 => ?nr4_7)
            case hr4_7 =>
              obtain ⟨d0, d1, d2, d3⟩ := FX.out _ (h4.trans hD.1)
              go_simp; rfl
            simp only [Act.put, List.setIfInBounds_toArray, List.set_cons_succ, List.set_cons_zero, Nat.reduceAdd]
            refine wM_val ?ur4_8 rfl rfl Ext.refl (fun w' hD => ?hr4_8) (fun phr4_8 => ?nr4_8)
            case hr4_8 =>
              obtain ⟨d0, d1, d2, d3⟩ := FX.out _ (h4.trans hD.1)
              go_simp; rfl
            simp only [Act.put, List.setIfInBounds_toArray, List.set_cons_succ, List.set_cons_zero, Nat.reduceAdd]
            refine wM_val ?ur4_9 rfl rfl Ext.refl (fun w' hD => ?hr4_9) (fun phr4_9 => ?nr4_9)
            case hr4_9 =>
              obtain ⟨d0, d1, d2, d3⟩ := FX.out _ (h4.trans hD.1)
              go_simp; rfl
            simp only [Act.put, List.setIfInBounds_toArray, List.set_cons_succ, List.set_cons_zero, Nat.reduceAdd]
            refine wM_val ?ur4_10 rfl rfl Ext.refl (fun w' hD => ?hr4_10) (fun phr4_10 => ?nr4_10)
            case hr4_10 =>
              obtain ⟨d0, d1, d2, d3⟩ := FX.out _ (h4.trans hD.1)
              go_simp; rfl
            simp only [Act.put, List.setIfInBounds_toArray, List.set_cons_succ, List.set_cons_zero, Nat.reduceAdd]
            refine wM_op _ rfl rfl (opens_call ?fr4_11 ?gr4_11 (fun w' hD => ?hr4_11) (fun w' hD => ?cr4_11)) (fun v11 hv11 => ?nr4_11)
            case hr4_11 => go_simp; constructor <;> rfl
            case cr4_11 =>
              have K := refset_any _ c n w' (HCX.out w' (h4.trans hD.1)) HWI.out.1 HWI.out.2 (by omega)
              rw [HN.out] at K
              refine K.mono ?_
              rintro e w2 ⟨B, rfl, -, hB, hb⟩
              exact ⟨_, rfl, hb, B, rfl, hB.bools⟩
            obtain ⟨_, -, -, Be, rfl, -⟩ := hv11
            simp only [Act.put, List.setIfInBounds_toArray, List.set_cons_succ, List.set_cons_zero, Nat.reduceAdd]
            refine wM_val ?ur4_12 rfl rfl Ext.refl (fun w' hD => ?hr4_12) (fun phr4_12 => ?nr4_12)
            case hr4_12 =>
              obtain ⟨d0, d1, d2, d3⟩ := FX.out _ (h4.trans hD.1)
              go_simp; rfl
            simp only [Act.put, List.setIfInBounds_toArray, List.set_cons_succ, List.set_cons_zero, Nat.reduceAdd]
            refine wM_val ?ur4_13 rfl rfl Ext.refl (fun w' hD => ?hr4_13) (fun phr4_13 => ?nr4_13)
            case hr4_13 =>
              obtain ⟨d0, d1, d2, d3⟩ := FX.out _ (h4.trans hD.1)
              go_simp; rfl
            simp only [Act.put, List.setIfInBounds_toArray, List.set_cons_succ, List.set_cons_zero, Nat.reduceAdd]
            refine wM_op _ rfl rfl (opens_call ?fr4_14 ?gr4_14 (fun w' hD => ?hr4_14) (fun w' hD => ?cr4_14)) (fun v14 hv14 => ?nr4_14)
            case hr4_14 => go_simp; constructor <;> rfl
            case cr4_14 =>
              obtain ⟨-, B9, e9, hB9⟩ := hD.get 11 (by first | kernel_rfl | simp [Region.binds])
              cases e9
              have K := refyes_any _ c (some ⟨Be, 0, none⟩) N (rl N (bit n)) a b w' (HCX.out w' (h4.trans hD.1)) HSZ.out H0.out hB9 (by rw [rl_len, HN.out]) HA.out HB.out
              rw [rl_len, HPN.out, hpl] at K
              refine K.mono ?_
              rintro e w2 ⟨rfl, hb⟩
              exact ⟨_, rfl, hb, rfl⟩
            obtain ⟨_, -, -, rfl⟩ := hv14
            simp only [Act.put, List.setIfInBounds_toArray, List.set_cons_succ, List.set_cons_zero, Nat.reduceAdd]
            refine wM_val ?ur4_15 rfl rfl Ext.refl (fun w' hD => ?hr4_15) (fun phr4_15 => ?nr4_15)
            case hr4_15 =>
              obtain ⟨d0, d1, d2, d3⟩ := FX.out _ (h4.trans hD.1)
              go_simp; rfl
            simp only [Act.put, List.setIfInBounds_toArray, List.set_cons_succ, List.set_cons_zero, Nat.reduceAdd]
            refine wM_nil ?_
            intro w6 hx6 hF9
            clear hF9
            have h6 := h4.trans hx6
            have HS2 := hid (best_no HS.out hpl)
            have HI66 := hI6.ext hx6
            go_wp2
            go_roundw
            case rel => exact ⟨n + 1, some b', true, by omega, by go_num, rfl, rfl, ⟨A6, k6, rfl, HI66, hl6⟩, h6, HS2.out⟩
            case measure => simp [intOf]; omega
          · go_wp2
            refine wp_region_shut Ext (fun w' => Ext w4 w') (fun | 5 => some (fun v _ => v = .bool true) | 11 => some (fun v w' => ∃ B, v = .slice (some ⟨B, 0, none⟩) N N ∧ Bools w' (some ⟨B, 0, none⟩) (rl N (bit n))) | 14 => some (fun v _ => v = .bool true) | _ => none) (by kernel_rfl) (by kernel_rfl) (fun _ _ h k => h.trans k) ?hT5 (Ext.drew (Ext.refl w4)) ?_
            case hT5 =>
              intro i R hR
              match i, hR with
              | 5, hR => cases hR; exact fun _ _ _ h _ => h
              | 11, hR => cases hR; exact fun _ _ _ ⟨B, e, h⟩ k => ⟨B, e, h.ext k⟩
              | 14, hR => cases hR; exact fun _ _ _ h _ => h
            refine wM_val ?ur5_0 rfl rfl Ext.refl (fun w' hD => ?hr5_0) (fun phr5_0 => ?nr5_0)
            case hr5_0 =>
              obtain ⟨d0, d1, d2, d3⟩ := FX.out _ (h4.trans hD.1)
              go_simp; rfl
            simp only [Act.put, List.setIfInBounds_toArray, List.set_cons_succ, List.set_cons_zero, Nat.reduceAdd]
            refine wM_val ?ur5_1 rfl rfl Ext.refl (fun w' hD => ?hr5_1) (fun phr5_1 => ?nr5_1)
            case hr5_1 =>
              obtain ⟨d0, d1, d2, d3⟩ := FX.out _ (h4.trans hD.1)
              go_simp; rfl
            simp only [Act.put, List.setIfInBounds_toArray, List.set_cons_succ, List.set_cons_zero, Nat.reduceAdd]
            refine wM_val ?ur5_2 rfl rfl Ext.refl (fun w' hD => ?hr5_2) (fun phr5_2 => ?nr5_2)
            case hr5_2 =>
              obtain ⟨d0, d1, d2, d3⟩ := FX.out _ (h4.trans hD.1)
              go_simp; rfl
            simp only [Act.put, List.setIfInBounds_toArray, List.set_cons_succ, List.set_cons_zero, Nat.reduceAdd]
            refine wM_val ?ur5_3 rfl rfl Ext.refl (fun w' hD => ?hr5_3) (fun phr5_3 => ?nr5_3)
            case hr5_3 =>
              obtain ⟨d0, d1, d2, d3⟩ := FX.out _ (h4.trans hD.1)
              go_simp; rfl
            simp only [Act.put, List.setIfInBounds_toArray, List.set_cons_succ, List.set_cons_zero, Nat.reduceAdd]
            refine wM_val ?ur5_4 rfl rfl Ext.refl (fun w' hD => ?hr5_4) (fun phr5_4 => ?nr5_4)
            case hr5_4 =>
              obtain ⟨d0, d1, d2, d3⟩ := FX.out _ (h4.trans hD.1)
              go_simp; rfl
            simp only [Act.put, List.setIfInBounds_toArray, List.set_cons_succ, List.set_cons_zero, Nat.reduceAdd]
            refine wM_op _ rfl rfl (opens_call ?fr5_5 ?gr5_5 (fun w' hD => ?hr5_5) (fun w' hD => ?cr5_5)) (fun v5 hv5 => ?nr5_5)
            case hr5_5 => go_simp; constructor <;> rfl
            case cr5_5 =>
              have K := refbefore_any A5 A6 k5 k6 (someW (bit n) N) b' w' (hI5.ext hD.1) (hI6.ext hD.1) (by omega) (by omega)
              rw [hfw] at K
              refine K.mono ?_
              rintro e w2 ⟨rfl, hb⟩
              exact ⟨_, rfl, hb, rfl⟩
            obtain ⟨_, -, -, rfl⟩ := hv5
            simp only [Act.put, List.setIfInBounds_toArray, List.set_cons_succ, List.set_cons_zero, Nat.reduceAdd]
            refine wM_val ?ur5_6 rfl rfl Ext.refl (fun w' hD => ?hr5_6) (fun phr5_6 => ?nr5_6)
            case hr5_6 =>
              obtain ⟨d0, d1, d2, d3⟩ := FX.out _ (h4.trans hD.1)
              go_simp; rfl
            simp only [Act.put, List.setIfInBounds_toArray, List.set_cons_succ, List.set_cons_zero, Nat.reduceAdd]
            refine wM_val ?ur5_7 rfl rfl Ext.refl (fun w' hD => ?hr5_7) (fun phr5_7 => ?nr5_7)
            case hr5_7 =>
              obtain ⟨d0, d1, d2, d3⟩ := FX.out _ (h4.trans hD.1)
              go_simp; rfl
            simp only [Act.put, List.setIfInBounds_toArray, List.set_cons_succ, List.set_cons_zero, Nat.reduceAdd]
            refine wM_val ?ur5_8 rfl rfl Ext.refl (fun w' hD => ?hr5_8) (fun phr5_8 => ?nr5_8)
            case hr5_8 =>
              obtain ⟨d0, d1, d2, d3⟩ := FX.out _ (h4.trans hD.1)
              go_simp; rfl
            simp only [Act.put, List.setIfInBounds_toArray, List.set_cons_succ, List.set_cons_zero, Nat.reduceAdd]
            refine wM_val ?ur5_9 rfl rfl Ext.refl (fun w' hD => ?hr5_9) (fun phr5_9 => ?nr5_9)
            case hr5_9 =>
              obtain ⟨d0, d1, d2, d3⟩ := FX.out _ (h4.trans hD.1)
              go_simp; rfl
            simp only [Act.put, List.setIfInBounds_toArray, List.set_cons_succ, List.set_cons_zero, Nat.reduceAdd]
            refine wM_val ?ur5_10 rfl rfl Ext.refl (fun w' hD => ?hr5_10) (fun phr5_10 => ?nr5_10)
            case hr5_10 =>
              obtain ⟨d0, d1, d2, d3⟩ := FX.out _ (h4.trans hD.1)
              go_simp; rfl
            simp only [Act.put, List.setIfInBounds_toArray, List.set_cons_succ, List.set_cons_zero, Nat.reduceAdd]
            refine wM_op _ rfl rfl (opens_call ?fr5_11 ?gr5_11 (fun w' hD => ?hr5_11) (fun w' hD => ?cr5_11)) (fun v11 hv11 => ?nr5_11)
            case hr5_11 => go_simp; constructor <;> rfl
            case cr5_11 =>
              have K := refset_any _ c n w' (HCX.out w' (h4.trans hD.1)) HWI.out.1 HWI.out.2 (by omega)
              rw [HN.out] at K
              refine K.mono ?_
              rintro e w2 ⟨B, rfl, -, hB, hb⟩
              exact ⟨_, rfl, hb, B, rfl, hB.bools⟩
            obtain ⟨_, -, -, Be, rfl, -⟩ := hv11
            simp only [Act.put, List.setIfInBounds_toArray, List.set_cons_succ, List.set_cons_zero, Nat.reduceAdd]
            refine wM_val ?ur5_12 rfl rfl Ext.refl (fun w' hD => ?hr5_12) (fun phr5_12 => ?nr5_12)
            case hr5_12 =>
              obtain ⟨d0, d1, d2, d3⟩ := FX.out _ (h4.trans hD.1)
              go_simp; rfl
            simp only [Act.put, List.setIfInBounds_toArray, List.set_cons_succ, List.set_cons_zero, Nat.reduceAdd]
            refine wM_val ?ur5_13 rfl rfl Ext.refl (fun w' hD => ?hr5_13) (fun phr5_13 => ?nr5_13)
            case hr5_13 =>
              obtain ⟨d0, d1, d2, d3⟩ := FX.out _ (h4.trans hD.1)
              go_simp; rfl
            simp only [Act.put, List.setIfInBounds_toArray, List.set_cons_succ, List.set_cons_zero, Nat.reduceAdd]
            refine wM_op _ rfl rfl (opens_call ?fr5_14 ?gr5_14 (fun w' hD => ?hr5_14) (fun w' hD => ?cr5_14)) (fun v14 hv14 => ?nr5_14)
            case hr5_14 => go_simp; constructor <;> rfl
            case cr5_14 =>
              obtain ⟨-, B9, e9, hB9⟩ := hD.get 11 (by first | kernel_rfl | simp [Region.binds])
              cases e9
              have K := refyes_any _ c (some ⟨Be, 0, none⟩) N (rl N (bit n)) a b w' (HCX.out w' (h4.trans hD.1)) HSZ.out H0.out hB9 (by rw [rl_len, HN.out]) HA.out HB.out
              rw [rl_len, HPN.out, hpl] at K
              refine K.mono ?_
              rintro e w2 ⟨rfl, hb⟩
              exact ⟨_, rfl, hb, rfl⟩
            obtain ⟨_, -, -, rfl⟩ := hv14
            simp only [Act.put, List.setIfInBounds_toArray, List.set_cons_succ, List.set_cons_zero, Nat.reduceAdd]
            refine wM_val ?ur5_15 rfl rfl Ext.refl (fun w' hD => ?hr5_15) (fun phr5_15 => ?nr5_15)
            case hr5_15 =>
              obtain ⟨d0, d1, d2, d3⟩ := FX.out _ (h4.trans hD.1)
              go_simp; rfl
            simp only [Act.put, List.setIfInBounds_toArray, List.set_cons_succ, List.set_cons_zero, Nat.reduceAdd]
            refine wM_nil ?_
            intro w6 hx6 hF9
            clear hF9
            have h6 := h4.trans hx6
            have HS2 := hid (best_new2 HS.out hfw hpl)
            have HI56 := hI5.ext hx6
            go_wp2
            go_roundw
            case rel => exact ⟨n + 1, some (someW (bit n) N), true, by omega, by go_num, rfl, rfl, ⟨A5, k5, rfl, HI56, by omega⟩, h6, HS2.out⟩
            case measure => simp [intOf]; omega
    · have hlt' : ¬ (n : Int) < (2 : Int) ^ N := by rw [pow_cast]; omega
      obtain rfl : n = 2 ^ N := by omega
      have HF : Hid (fewL p N = s) := by unfold Hid; rw [← HS.out, best_is]
      have hxx := hxa.out.trans hx
      cases s with
      | none =>
        obtain rfl : f = false := HFS.out
        obtain rfl : _ = Value.slice none 0 0 := hbv
        go_wp2
        go_ret2
        exact ⟨hxx, .inl ⟨HF.out, rfl⟩⟩
      | some b =>
        obtain rfl : f = true := HFS.out
        obtain ⟨A6, k6, rfl, hI6, hl6⟩ := hbv
        have HI6 := hid hI6
        clear hI6
        go_wp2
        go_ret2
        exact ⟨hxx, .inr ⟨b, A6, k6, HF.out, rfl, HI6.out, hl6⟩⟩
end Go.Proofs.Ytgnjhaomlbkgcaa

namespace Go.Proofs.Ytgnjhaomlbkgcaa
open Go Go.RowKit Go.Shelf
set_option linter.unusedVariables false
set_option linter.unusedSimpArgs false

def pcells : List (Int × Int) → List Value
  | [] => []
  | p :: l => .int .i64 p.1 :: .int .i64 p.2 :: pcells l
theorem pcells_len (l : List (Int × Int)) : (pcells l).length = l.length * 2 := by
  induction l with
  | nil => rfl
  | cons p l ih => simp [pcells, ih]; omega
theorem pcells_app (l m : List (Int × Int)) : pcells (l ++ m) = pcells l ++ pcells m := by
  induction l with
  | nil => rfl
  | cons p l ih => simp [pcells, ih]
theorem pcells_get (l : List (Int × Int)) : ∀ (k : Nat) (p : Int × Int), l[k]? = some p → (pcells l)[k * 2]? = some (.int .i64 p.1) ∧ (pcells l)[k * 2 + 1]? = some (.int .i64 p.2) := by
  induction l with
  | nil => intro k p h; simp at h
  | cons b l ih =>
    intro k p h
    cases k with
    | zero => simp at h; subst h; simp [pcells]
    | succ k =>
      have := ih k p (by simpa using h)
      have e : (k + 1) * 2 = k * 2 + 1 + 1 := by omega
      rw [e]
      simp only [pcells, List.getElem?_cons_succ]
      exact this
theorem pcells_one (l : List (Int × Int)) : ∀ u ∈ pcells l, u.oneCell' = true := by
  induction l with
  | nil => intro u h; simp [pcells] at h
  | cons p l ih =>
    intro u h
    simp only [pcells, List.mem_cons] at h
    rcases h with rfl | rfl | h
    · rfl
    · rfl
    · exact ih u h
def Pairs (w : World) (A : Option Addr) (l : List (Int × Int)) : Prop := Rd w A (pcells l)
theorem Pairs.ext {w w' : World} {A : Option Addr} {l : List (Int × Int)} (h : Pairs w A l) (hx : Ext w w') : Pairs w' A l := Rd.ext h hx
theorem Pairs.at_ {w : World} {A : Option Addr} {l : List (Int × Int)} {k : Nat} {p : Int × Int} (h : Pairs w A l) (hk : l[k]? = some p) :
    ∃ b off, A = some ⟨b, off, none⟩ ∧ w.cell? ⟨b, off + k * 2, none⟩ = some (.int .i64 p.1) ∧ w.cell? ⟨b, off + k * 2 + 1, none⟩ = some (.int .i64 p.2) := by
  obtain ⟨h0, h1⟩ := pcells_get l k p hk
  obtain ⟨b, off, hA, hc⟩ := Rd.at_ h (by intro e; rw [e] at h0; simp at h0)
  exact ⟨b, off, hA, hc _ _ h0, hc _ _ h1⟩
theorem elem_pair : ElemOK Try.prog 89 92 2 16 := by
  refine ⟨Try.underlying89, ?_, by decide, by decide⟩
  have h : ((Try.prog.info? 92).bind fun i => i.zero.map fun z => (i.size, i.bytes, z.cells.size)) = some (2, 16, 2) := by kernel_rfl
  cases hi : Try.prog.info? 92 with
  | none => rw [hi] at h; cases h
  | some i =>
    rw [hi] at h
    cases hz : i.zero with
    | none => simp [hz] at h
    | some z => simp [hz] at h; exact ⟨i, z, rfl, hz, h.1, h.2.1, h.2.2⟩

def rowO (g : Mat) (x k : Nat) : List (Int × Int) :=
  (((List.range k).filter fun (y : Nat) => verdictM g x y == 1).map fun (y : Nat) => ((x : Int), (y : Int)))
def orderTo (g : Mat) (n a b : Nat) : List (Int × Int) := (List.range a).flatMap (fun x => rowO g x n) ++ rowO g a b
def orderL (c : Cs) : List (Int × Int) := orderTo (gapsM allT c) c.ev.toNat c.ev.toNat 0
theorem orderTo_step (g : Mat) (n a b : Nat) : orderTo g n a (b + 1) = orderTo g n a b ++ if verdictM g a b = 1 then [((a : Int), (b : Int))] else [] := by
  unfold orderTo rowO
  rw [List.range_succ, List.filter_append, List.map_append, List.append_assoc]
  congr 2
  by_cases h : verdictM g a b = 1 <;> simp [h]
theorem orderTo_next (g : Mat) (n a : Nat) : orderTo g n a n = orderTo g n (a + 1) 0 := by
  unfold orderTo
  rw [List.range_succ, List.flatMap_append]
  simp [rowO]
def OrderPost (w : World) (c : Cs) (e : Ending) (w' : World) : Prop :=
  ∃ r, e = .returned (.tuple #[r, .int .i64 (toldC c)]) ∧ Ext w w' ∧ (toldC c ≠ 0 → r = .slice none 0 0) ∧ (toldC c = 0 → ∃ A k, r = .slice A (orderL c).length k ∧ w'.ownsRow w.heap.size 92 2 (.slice A (orderL c).length k) (orderL c).length (pcells (orderL c)))

set_option maxRecDepth 100000 in
set_option maxHeartbeats 4000000 in
theorem order_any (v : Value) (c : Cs) (w : World) (hc : CsR w v c) (hs : c.sized) : Calls Try.prog 51 #[v] w (OrderPost w c) := by
  have hc' := hc
  obtain ⟨A1, c1, A2, c2, rfl, hB, hC⟩ := hc
  obtain ⟨T, hT⟩ : ∃ T, toldC c = T := ⟨_, rfl⟩
  have HT := hid hT
  go_enter Try.func51, Try.ntmps51
  go_wp2_with fail
  have hx0 : Ext w (w.alloc (.cells #[.int .i64 c.ev, .slice A1 c.bs.length c1, .int .i64 c.wi, .slice A2 c.cl.length c2] 26)) := Ext.alloc (Ext.refl w) _
  refine (told_any _ c _ (hc'.ext hx0) hs).mono ?_
  rw [hT]
  clear hT
  rintro e w1 ⟨r, rfl, hb1, hr1, hr2⟩
  have hx1 := hx0.trans hb1
  have kc0 := hb1.cell (p := ⟨w.heap.size, 0, none⟩) (u := .int .i64 c.ev) (by simp [go_sem])
  by_cases h0 : T = 0
  · have hr := hr1 h0
    have HC0 := toldC_check (HT.out.trans h0)
    obtain ⟨ev1, ev8⟩ := checkC_ev HC0
    subst h0
    obtain ⟨n, hn⟩ : ∃ n : Nat, c.ev = n := ⟨c.ev.toNat, by omega⟩
    have HN := hid hn
    obtain ⟨g, hg⟩ : ∃ g, gapsM allT c = g := ⟨_, rfl⟩
    have HG := hid hg
    rw [hg] at hr
    rw [hn] at kc0
    have hn8 : n ≤ 8 := by omega
    have HDK := hid hr
    clear hr1 hr2 hn hg ev1 ev8 hr HC0
    go_wp2
    go_loopw [6, 19] (fun o i wr => ∃ (a : Nat) (A : Option Addr) (k : Nat) (L : List (Int × Int)), o = .slice A L.length k ∧ i = .int .i64 (a : Int) ∧ a ≤ n ∧ L.length ≤ 8 * a ∧ Hid (L = orderTo g n a 0) ∧ Hid (wr.ownsRow w1.heap.size 92 2 (.slice A L.length k) L.length (pcells L)) ∧ Ext w1 wr) (fun _ i _ => n - (intOf i).toNat)
    case atStart => exact ⟨0, none, 0, [], rfl, rfl, Nat.zero_le _, by simp, by unfold Hid; simp [orderTo, rowO], own_nil _ _ _ _, Ext.refl _⟩
    case round =>
      obtain ⟨a, A, k, L, rfl, rfl, ha, hL, HL, O, hx⟩ := hrel
      by_cases hlt : a < n
      · have hlt' : (a : Int) < (n : Int) := by omega
        have kc1 := hx.cell kc0
        obtain ⟨wo, rfl⟩ : ∃ wo : World, wo = wr := ⟨_, rfl⟩
        go_wp2
        clear kc1
        go_loopw [6, 24] (fun o i wr => ∃ (b : Nat) (A : Option Addr) (k : Nat) (L : List (Int × Int)), o = .slice A L.length k ∧ i = .int .i64 (b : Int) ∧ b ≤ n ∧ L.length ≤ 8 * a + b ∧ Hid (L = orderTo g n a b) ∧ Hid (wr.ownsRow w1.heap.size 92 2 (.slice A L.length k) L.length (pcells L)) ∧ Ext w1 wr) (fun _ i _ => n - (intOf i).toNat)
        case atStart => exact ⟨0, A, k, L, rfl, rfl, Nat.zero_le _, by omega, HL, O, hx⟩
        case round =>
          obtain ⟨b, A, k, L, rfl, rfl, hb, hL, HL, O, hx⟩ := hrel
          by_cases hltb : b < n
          · have hltb' : (b : Int) < (n : Int) := by omega
            have HST := hid (orderTo_step g n a b)
            go_wp2_with fail
            have K := verdict_any r c g wr (HDK.out.ext hx) a b (by omega) (by omega)
            by_cases hv : verdictM g a b = 1
            · have HS2 : Hid (orderTo g n a (b + 1) = L ++ [((a : Int), (b : Int))]) := by unfold Hid; rw [HST.out, if_pos hv, HL.out]
              rw [hv] at K
              refine K.mono ?_
              rintro e w2 ⟨rfl, rfl⟩
              obtain ⟨wr, rfl⟩ : ∃ wr : World, wr = w2 := ⟨_, rfl⟩
              have hsz := hx.size
              have hx1s := hx1.size
              have hxo := Ext.alloc (Ext.refl wr) (.cells #[.int .i64 (a : Int), .int .i64 (b : Int)] 92)
              have hbase : w1.heap.size ≤ (wr.alloc (.cells #[.int .i64 (a : Int), .int .i64 (b : Int)] 92)).heap.size := by have := hxo.size; omega
              have O2 := hid (own_below O.out hxo)
              have hLb : (L.length + 1) * 16 ≤ 140737488355328 := by omega
              clear HST hv K HL O
              go_wp2_with (at_builtin; refine wpList_append_rd _ rfl _ _ 89 rfl elem_pair w1.heap.size _ L.length (pcells L) rfl O2.out _ 1 1 (pcells [((a : Int), (b : Int))]) rfl rfl (rd_block (heap_alloc_new wr _)) (pcells_one _) hLb hbase ?_)
              intro A5 c5 w5 hown5 hbel5 hgr5 _
              have hx5 : Ext w1 w5 := Below.trans (hx.trans hxo) hbel5
              have HL5 : Hid ((L ++ [((a : Int), (b : Int))]).length = L.length + 1) := by unfold Hid; simp
              have O5 : Hid (w5.ownsRow w1.heap.size 92 2 (.slice A5 (L ++ [((a : Int), (b : Int))]).length c5) (L ++ [((a : Int), (b : Int))]).length (pcells (L ++ [((a : Int), (b : Int))]))) := by
                unfold Hid; rw [HL5.out, pcells_app]; exact hown5
              have hl9 : (L ++ [((a : Int), (b : Int))]).length ≤ 8 * a + (b + 1) := by have := HL5.out; omega
              have hsl : Value.slice A5 (L.length + 1) c5 = .slice A5 (L ++ [((a : Int), (b : Int))]).length c5 := by simp
              have HSL := hid hsl
              clear hown5 hbel5 hgr5 O2 hxo hsl
              go_wp2
              go_roundw
              case rel => exact ⟨b + 1, A5, c5, L ++ [((a : Int), (b : Int))], HSL.out, by go_num, by omega, hl9, HS2.out.symm, O5, hx5⟩
              case measure => simp [intOf]; omega
            · have HS2 : Hid (orderTo g n a (b + 1) = L) := by unfold Hid; rw [HST.out, if_neg hv, HL.out, List.append_nil]
              obtain ⟨V, hV⟩ : ∃ V, verdictM g a b = V := ⟨_, rfl⟩
              rw [hV] at K hv
              have hvb : (V == 1) = false := by simpa using hv
              clear hV HST HL hv
              refine K.mono ?_
              rintro e w2 ⟨rfl, rfl⟩
              clear K
              go_wp2
              go_roundw
              case rel => exact ⟨b + 1, A, k, L, rfl, by go_num, by omega, by omega, HS2.out.symm, O, hx⟩
              case measure => simp [intOf]; omega
          · have hltb' : ¬ (b : Int) < (n : Int) := by omega
            have HL2 : Hid (L = orderTo g n (a + 1) 0) := by
              unfold Hid
              rw [HL.out, show b = n by omega, orderTo_next]
            go_wp2
            go_roundw
            case rel => exact ⟨a + 1, A, k, L, rfl, by go_num, by omega, by omega, HL2, O, hx⟩
            case measure => simp [intOf]; omega
      · have hlt' : ¬ (a : Int) < (n : Int) := by omega
        have HL2 : Hid (L = orderL c) := by
          unfold Hid orderL
          rw [HL.out, HG.out, HN.out, show a = n by omega]; rfl
        go_wp2
        go_ret2
        exact ⟨.slice A L.length k, by rw [HT.out]; rfl, hx1.trans hx, fun h => absurd HT.out h, fun _ => ⟨A, k, by rw [← HL2.out], by rw [← HL2.out]; exact own_base O.out hx1.size⟩⟩
  · have H0 := hid h0
    have hr := hr2 h0
    subst hr
    clear hr1 hr2
    go_wp2
    go_ret2
    exact ⟨.slice none 0 0, by rw [HT.out]; rfl, hx1, fun _ => rfl, fun h => absurd (HT.out.symm.trans h) H0.out⟩

/-! slices.Contains over pairs -/
def memP (p : Int × Int) (l : List (Int × Int)) : Bool := l.any fun q => p == q
theorem memP_iff {p : Int × Int} {l : List (Int × Int)} : memP p l = true ↔ p ∈ l := by
  unfold memP
  rw [List.any_eq_true]
  exact ⟨fun ⟨q, h, e⟩ => by rw [beq_iff_eq.1 e]; exact h, fun h => ⟨p, h, by simp⟩⟩
theorem pair_beq (p q : Int × Int) : ([p.1, p.2] == [q.1, q.2]) = (p == q) := by
  obtain ⟨a, b⟩ := p
  obtain ⟨c, d⟩ := q
  show ((a == c) && ((b == d) && true)) = ((a == c) && (b == d))
  rw [Bool.and_true]
set_option maxRecDepth 100000 in
set_option maxHeartbeats 2000000 in
theorem indexP_any (A : Option Addr) (k0 : Nat) (l : List (Int × Int)) (p : Int × Int) (w : World) (hA : Pairs w A l) (hl : l.length ≤ 1000000) :
    Calls Try.prog 105 #[.slice A l.length k0, .agg #[.int .i64 p.1, .int .i64 p.2]] w fun e w' => e = .returned (.int .i64 (idxF (fun q => p == q) l 0)) ∧ Ext w w' := by
  have HF : Hid (idxF (fun q => p == q) l 0 = idxF (fun q => p == q) (l.drop 0) 0) := rfl
  generalize hF : idxF (fun q => p == q) l 0 = F at HF ⊢
  clear hF
  go_enter Try.func105, Try.ntmps105
  go_wp2
  have x0 := Ext.alloc (Ext.refl w) (.cells #[.int .i64 p.1, .int .i64 p.2] 92)
  have k0' : (w.alloc (.cells #[.int .i64 p.1, .int .i64 p.2] 92)).cell? ⟨w.heap.size, 0, none⟩ = some (.int .i64 p.1) := by simp [go_sem]
  have k1' : (w.alloc (.cells #[.int .i64 p.1, .int .i64 p.2] 92)).cell? ⟨w.heap.size, 1, none⟩ = some (.int .i64 p.2) := by simp [go_sem]
  generalize hWo : w.alloc (.cells #[.int .i64 p.1, .int .i64 p.2] 92) = Wo at x0 k0' k1' ⊢
  clear hWo
  go_loopw [5, 8] (fun _ i wr => ∃ kk : Nat, kk ≤ l.length ∧ i = .int .i64 (kk : Int) ∧ Ext Wo wr ∧ Hid (F = idxF (fun q => p == q) (l.drop kk) kk)) (fun _ i _ => l.length - (intOf i).toNat)
  case atStart => exact ⟨0, Nat.zero_le _, rfl, Ext.refl _, HF⟩
  case round =>
    obtain ⟨kk, hk, rfl, hx, HF⟩ := hrel
    by_cases hlt : kk < l.length
    · have hlt' : (kk : Int) < (l.length : Int) := by omega
      obtain ⟨q, hq⟩ := get_of_lt l kk hlt
      obtain ⟨b, off, rfl, c0, c1⟩ := (hA.ext (x0.trans hx)).at_ hq
      have HD := hid (idxF_drop (fun q => p == q) l kk q hq)
      have r0 := hx.cell k0'
      have r1 := hx.cell k1'
      clear hq
      go_wp2
      have FX0 : ∀ w', Ext wr w' → w'.cell? ⟨w.heap.size, 0, none⟩ = some (.int .i64 p.1) ∧ w'.cell? ⟨w.heap.size, 1, none⟩ = some (.int .i64 p.2) ∧ w'.cell? ⟨b, off + kk * 2, none⟩ = some (.int .i64 q.1) ∧ w'.cell? ⟨b, off + kk * 2 + 1, none⟩ = some (.int .i64 q.2) :=
        fun w' h => ⟨h.cell r0, h.cell r1, h.cell c0, h.cell c1⟩
      have FX := hid FX0
      clear FX0 r0 r1 c0 c1
      refine wp_region_opens Ext (fun w' => Ext wr w') (fun _ => none) (by kernel_rfl) (by kernel_rfl) (fun _ _ h k => h.trans k) (fun i R hR => by cases hR) (Ext.drew (Ext.refl wr)) ?_
      refine wpM_val ?u0 rfl rfl Ext.refl (fun w' hD => ?h0) ?n0
      case h0 =>
        obtain ⟨d0, d1, d2, d3⟩ := FX.out w' hD.1
        go_simp; rfl
      simp only [Act.put, List.setIfInBounds_toArray, List.set_cons_succ, List.set_cons_zero, Nat.reduceAdd]
      refine wpM_val ?u1 rfl rfl Ext.refl (fun w' hD => ?h1) ?n1
      case h1 =>
        obtain ⟨d0, d1, d2, d3⟩ := FX.out w' hD.1
        go_simp; rfl
      simp only [Act.put, List.setIfInBounds_toArray, List.set_cons_succ, List.set_cons_zero, Nat.reduceAdd]
      refine wpM_val ?u2 rfl rfl Ext.refl (fun w' hD => ?h2) ?n2
      case h2 =>
        obtain ⟨d0, d1, d2, d3⟩ := FX.out w' hD.1
        go_simp; rfl
      simp only [Act.put, List.setIfInBounds_toArray, List.set_cons_succ, List.set_cons_zero, Nat.reduceAdd]
      refine wpM_val ?u3 rfl rfl Ext.refl (fun w' hD => ?h3) ?n3
      case h3 =>
        obtain ⟨d0, d1, d2, d3⟩ := FX.out w' hD.1
        go_simp; rfl
      simp only [Act.put, List.setIfInBounds_toArray, List.set_cons_succ, List.set_cons_zero, Nat.reduceAdd]
      refine wpM_val ?u4 rfl rfl Ext.refl (fun w' hD => ?h4) ?n4
      case h4 =>
        obtain ⟨d0, d1, d2, d3⟩ := FX.out w' hD.1
        go_simp; rfl
      simp only [Act.put, List.setIfInBounds_toArray, List.set_cons_succ, List.set_cons_zero, Nat.reduceAdd]
      refine wpM_val (.bool ([p.1, p.2] == [q.1, q.2])) rfl rfl Ext.refl (fun w' hD => ?hc5) ?nc5
      case hc5 =>
        refine run_eql_op w' _ 92 92 (.tmp 11) (.tmp 15) ?_ #[.int .i64 p.1, .int .i64 p.2] #[.int .i64 q.1, .int .i64 q.2] ?_ ?_ _ Try.eqGuardType92 (run_equalIn_arr1 w' 9998 92 3 .i64 2 Try.underlying92 Try.underlying3 (by kernel_rfl) (by kernel_rfl) [p.1, p.2] [q.1, q.2] rfl rfl)
        · rfl
        · rfl
        · rfl
      simp only [Act.put, List.setIfInBounds_toArray, List.set_cons_succ, List.set_cons_zero, Nat.reduceAdd]
      refine wpM_nil ?_
      intro w9 hw9 hF9
      rw [pair_beq]
      have hx9 := hx.trans hw9
      clear hF9 FX
      by_cases hpq : p = q
      · have hb : (p == q) = true := by simpa using hpq
        have HE : Hid (F = (kk : Int)) := by unfold Hid; rw [HF.out, HD.out, if_pos hb]
        rw [hb]
        clear hb hpq
        go_wp2
        go_ret
        exact ⟨ret_of (int_of HE.out.symm), x0.trans hx9⟩
      · have hb : (p == q) = false := by simpa using hpq
        have HE : Hid (F = idxF (fun q => p == q) (l.drop (kk + 1)) (kk + 1)) := by unfold Hid; rw [HF.out, HD.out, if_neg (by rw [hb]; simp)]
        rw [hb]
        clear hb hpq
        go_wp2
        go_roundw
        case rel => exact ⟨kk + 1, by omega, by go_num, hx9, HE⟩
        case measure => simp [intOf]; omega
    · have hlt' : ¬ (kk : Int) < (l.length : Int) := by omega
      have HE : Hid (F = -1) := by unfold Hid; rw [HF.out, idxF_end _ _ _ (by omega)]
      go_wp2
      go_ret
      exact ⟨ret_of (int_of HE.out.symm), x0.trans hx⟩
theorem containsP_any (A : Option Addr) (k0 : Nat) (l : List (Int × Int)) (p : Int × Int) (w : World) (hA : Pairs w A l) (hl : l.length ≤ 1000000) :
    Calls Try.prog 52 #[.slice A l.length k0, .agg #[.int .i64 p.1, .int .i64 p.2]] w fun e w' => e = .returned (.bool (memP p l)) ∧ Ext w w' := by
  have HM := hid (idxF_nonneg (fun q => p == q) l 0)
  go_enter Try.func52, Try.ntmps52
  go_wp2_with fail
  have x0 := Ext.alloc (Ext.refl w) (.cells #[.int .i64 p.1, .int .i64 p.2] 92)
  refine (indexP_any A k0 l p _ (hA.ext x0) hl).mono ?_
  rintro e w1 ⟨rfl, hb⟩
  go_wp2
  go_ret
  exact ⟨ret_of (bool_of HM.out), x0.trans hb⟩
end Go.Proofs.Ytgnjhaomlbkgcaa

namespace Go.Proofs.Ytgnjhaomlbkgcaa
open Go Go.RowKit
set_option linter.unusedVariables false
set_option linter.unusedSimpArgs false

set_option maxRecDepth 100000 in
set_option maxHeartbeats 1000000 in
theorem equal_vd (A A' : Option Addr) (c c' : Nat) (l m : List Int) (w : World) (hA : Ints w A l) (hB : Ints w A' m) (hl : l.length ≤ 9223372036854775807) (hm : m.length ≤ 9223372036854775807) :
    Calls Try.prog 106 #[.slice A l.length c, .slice A' m.length c'] w fun e w' => e = .returned (.bool (l == m)) ∧ Ext w w' := by
  by_cases hlen : l.length = m.length
  · generalize hN : m.length = N at *
    have HF : Hid ((l.drop 0 == m.drop 0) = (l == m)) := rfl
    generalize hF : (l == m) = F at HF ⊢
    clear hF
    have hn1 : (l.length : Int) = N := by omega
    obtain rfl : l.length = N := hlen
    clear hn1
    have HN := hid hN
    clear hN
    go_enter Try.func106, Try.ntmps106
    go_wp2
    go_loopw [5, 13] (fun _ i wr => ∃ k : Nat, k ≤ l.length ∧ i = .int .i64 (k : Int) ∧ Ext w wr ∧ Hid ((l.drop k == m.drop k) = F)) (fun _ i _ => l.length - (intOf i).toNat)
    case atStart => exact ⟨0, Nat.zero_le _, rfl, Ext.refl _, HF⟩
    case round =>
      obtain ⟨k, hk, rfl, hx, HF⟩ := hrel
      by_cases hlt : k < l.length
      · have hlt' : (k : Int) < (l.length : Int) := by omega
        obtain ⟨x, hx1⟩ := get_of_lt l k hlt
        obtain ⟨y, hy1⟩ := get_of_lt m k (by rw [HN.out]; exact hlt)
        obtain ⟨b1, o1, rfl, g1⟩ := (hA.ext hx).at_ hx1
        obtain ⟨b2, o2, rfl, g2⟩ := (hB.ext hx).at_ hy1
        have HX : Hid (((x == y) && (l.drop (k + 1) == m.drop (k + 1))) = F) := by unfold Hid; rw [← HF.out, eq_drop hx1 hy1]
        clear HF hx1 hy1
        by_cases hxy : x = y
        · subst hxy
          have hq : (x != x) = false := by simp
          have HX2 : Hid ((l.drop (k + 1) == m.drop (k + 1)) = F) := by unfold Hid; rw [← HX.out]; simp
          go_wp2
          go_quiet (fail)
          go_wp2
          go_roundw
          case rel => exact ⟨k + 1, by omega, by go_num, hx.drewN _, HX2⟩
          case measure => simp [intOf]; omega
        · have hq : (x != y) = true := by simpa using hxy
          have HX2 : Hid (false = F) := by unfold Hid; rw [← HX.out]; simp [hxy]
          go_wp2
          go_quiet (fail)
          go_wp2
          go_ret
          exact ⟨ret_of (bool_of HX2.out), hx.drewN _⟩
      · have hlt' : ¬ (k : Int) < (l.length : Int) := by omega
        have HX2 : Hid (true = F) := by
          unfold Hid
          rw [← HF.out, List.drop_eq_nil_of_le (by omega), List.drop_eq_nil_of_le (by rw [HN.out]; omega)]; rfl
        go_wp2
        go_ret
        exact ⟨ret_of (bool_of HX2.out), hx⟩
  · have hq : ((l.length : Int) != (m.length : Int)) = true := by simp; omega
    have HF : Hid ((l == m) = false) := by
      unfold Hid
      rw [beq_eq_false_iff_ne]
      intro e; exact hlen (by rw [e])
    generalize hF : (l == m) = F at HF ⊢
    clear hF
    go_enter Try.func106, Try.ntmps106
    go_wp2
    go_ret
    exact ⟨ret_of (bool_of HF.out.symm), Ext.refl _⟩

theorem eq_vd (A A' : Option Addr) (c c' : Nat) (l m : List Int) (w : World) (hA : Ints w A l) (hB : Ints w A' m) (hl : l.length ≤ 9223372036854775807) (hm : m.length ≤ 9223372036854775807) :
    Calls Try.prog 54 #[.slice A l.length c, .slice A' m.length c'] w fun e w' => e = .returned (.bool (l == m)) ∧ Ext w w' := by
  generalize hF : (l == m) = F
  have HF := hid hF
  clear hF
  go_enter Try.func54, Try.ntmps54
  go_wp2_with fail
  refine (equal_vd A A' c c' l m w hA hB hl hm).mono ?_
  rw [HF.out]
  rintro e w1 ⟨rfl, hb⟩
  go_wp2
  go_ret
  exact ⟨rfl, hb⟩
theorem run_neq_op {P : Program} (w : World) {o : Oper} (ρ : Operand → Value) (t ty : TypeId) (x y : Operand) (ho : o.op = .binOp .neq t x y ty) (xs ys : Array Value) (hx : ρ x = .agg xs) (hy : ρ y = .agg ys) (b : Bool)
    (hg : P.eqGuardType P.depth t = false) (he : (Op.equalIn 10000 t (.agg xs) (.agg ys)).run P w = .ok b w) : (execOp ρ o).run P w = .ok (.value (.bool (!b))) w := by
  unfold execOp
  simp only [ho, hx, hy, Sem.run_bind, run_eqGuard_agg w .neq t x y xs ys hg, Result.andThen_ok, run_neq_struct w t xs ys, he, Sem.run_pure]
theorem run_eq_pair (w : World) (x y : Int) : (Op.equalIn 10000 92 (.agg #[.int .i64 x, .int .i64 y]) (.agg #[.int .i64 x, .int .i64 y])).run Try.prog w = .ok true w := by
  have h := run_equalIn_arr1 (P := Try.prog) w 9998 92 3 .i64 2 Try.underlying92 Try.underlying3 (by kernel_rfl) (by kernel_rfl) [x, y] [x, y] rfl rfl
  rw [beq_self_eq_true] at h
  exact h

set_option maxRecDepth 100000 in
set_option maxHeartbeats 1000000 in
theorem equal_pairs (A A' : Option Addr) (c c' : Nat) (l : List (Int × Int)) (w : World) (hA : Pairs w A l) (hB : Pairs w A' l) (hl : l.length ≤ 9223372036854775807) :
    Calls Try.prog 107 #[.slice A l.length c, .slice A' l.length c'] w fun e w' => e = .returned (.bool true) ∧ Ext w w' := by
  go_enter Try.func107, Try.ntmps107
  go_wp2
  go_loopw [5, 13] (fun _ i wr => ∃ k : Nat, k ≤ l.length ∧ i = .int .i64 (k : Int) ∧ Ext w wr) (fun _ i _ => l.length - (intOf i).toNat)
  case atStart => exact ⟨0, Nat.zero_le _, rfl, Ext.refl _⟩
  case round =>
    obtain ⟨k, hk, rfl, hx⟩ := hrel
    by_cases hlt : k < l.length
    · have hlt' : (k : Int) < (l.length : Int) := by omega
      obtain ⟨x, hx1⟩ := get_of_lt l k hlt
      obtain ⟨b1, o1, rfl, g1, g2⟩ := (hA.ext hx).at_ hx1
      obtain ⟨b2, o2, rfl, k1, k2⟩ := (hB.ext hx).at_ hx1
      clear hx1
      go_wp2
      have FX : Hid (∀ w', Ext wr w' → w'.cell? ⟨b1, o1 + k * 2, none⟩ = some (.int .i64 x.1) ∧ w'.cell? ⟨b1, o1 + k * 2 + 1, none⟩ = some (.int .i64 x.2) ∧ w'.cell? ⟨b2, o2 + k * 2, none⟩ = some (.int .i64 x.1) ∧ w'.cell? ⟨b2, o2 + k * 2 + 1, none⟩ = some (.int .i64 x.2)) :=
        fun w' h => ⟨h.cell g1, h.cell g2, h.cell k1, h.cell k2⟩
      clear g1 g2 k1 k2
      refine wp_region_shut Ext (fun w' => Ext wr w') (fun _ => none) (by kernel_rfl) (by kernel_rfl) (fun _ _ h k => h.trans k) (fun i R h => by cases h) (Ext.drew (Ext.refl wr)) ?_
      refine wM_val ?ua0 rfl rfl Ext.refl (fun w' hD => ?ha0) (fun pha0 => ?na0)
      case ha0 =>
        obtain ⟨d0, d1, d2, d3⟩ := FX.out _ hD.1
        go_simp; rfl
      simp only [Act.put, List.setIfInBounds_toArray, List.set_cons_succ, List.set_cons_zero, Nat.reduceAdd]
      refine wM_val ?ua1 rfl rfl Ext.refl (fun w' hD => ?ha1) (fun pha1 => ?na1)
      case ha1 =>
        obtain ⟨d0, d1, d2, d3⟩ := FX.out _ hD.1
        go_simp; rfl
      simp only [Act.put, List.setIfInBounds_toArray, List.set_cons_succ, List.set_cons_zero, Nat.reduceAdd]
      refine wM_val ?ua2 rfl rfl Ext.refl (fun w' hD => ?ha2) (fun pha2 => ?na2)
      case ha2 =>
        obtain ⟨d0, d1, d2, d3⟩ := FX.out _ hD.1
        go_simp; rfl
      simp only [Act.put, List.setIfInBounds_toArray, List.set_cons_succ, List.set_cons_zero, Nat.reduceAdd]
      refine wM_val ?ua3 rfl rfl Ext.refl (fun w' hD => ?ha3) (fun pha3 => ?na3)
      case ha3 =>
        obtain ⟨d0, d1, d2, d3⟩ := FX.out _ hD.1
        go_simp; rfl
      simp only [Act.put, List.setIfInBounds_toArray, List.set_cons_succ, List.set_cons_zero, Nat.reduceAdd]
      refine wM_val ?ua4 rfl rfl Ext.refl (fun w' hD => ?ha4) (fun pha4 => ?na4)
      case ha4 =>
        obtain ⟨d0, d1, d2, d3⟩ := FX.out _ hD.1
        go_simp; rfl
      simp only [Act.put, List.setIfInBounds_toArray, List.set_cons_succ, List.set_cons_zero, Nat.reduceAdd]
      refine wM_val ?ua5 rfl rfl Ext.refl (fun w' hD => ?ha5) (fun pha5 => ?na5)
      case ha5 =>
        obtain ⟨d0, d1, d2, d3⟩ := FX.out _ hD.1
        go_simp; rfl
      simp only [Act.put, List.setIfInBounds_toArray, List.set_cons_succ, List.set_cons_zero, Nat.reduceAdd]
      refine wM_val ?ua6 rfl rfl Ext.refl (fun w' hD => ?ha6) (fun pha6 => ?na6)
      case ha6 =>
        obtain ⟨d0, d1, d2, d3⟩ := FX.out _ hD.1
        go_simp; rfl
      simp only [Act.put, List.setIfInBounds_toArray, List.set_cons_succ, List.set_cons_zero, Nat.reduceAdd]
      refine wM_val ?ua7 rfl rfl Ext.refl (fun w' hD => ?ha7) (fun pha7 => ?na7)
      case ha7 =>
        obtain ⟨d0, d1, d2, d3⟩ := FX.out _ hD.1
        go_simp; rfl
      simp only [Act.put, List.setIfInBounds_toArray, List.set_cons_succ, List.set_cons_zero, Nat.reduceAdd]
      refine wM_val (.bool false) rfl rfl Ext.refl (fun w' hD => ?ha8) (fun pha8 => ?na8)
      case ha8 =>
        exact run_neq_op w' _ 92 92 (.tmp 19) (.tmp 23) rfl #[.int .i64 x.1, .int .i64 x.2] #[.int .i64 x.1, .int .i64 x.2] rfl rfl true Try.eqGuardType92 (run_eq_pair w' x.1 x.2)
      simp only [Act.put, List.setIfInBounds_toArray, List.set_cons_succ, List.set_cons_zero, Nat.reduceAdd]
      refine wM_nil ?_
      intro w9 hw9 hF9
      go_wp2
      go_roundw
      case rel => exact ⟨k + 1, by omega, by go_num, hx.trans hw9⟩
      case measure => simp [intOf]; omega
    · have hlt' : ¬ (k : Int) < (l.length : Int) := by omega
      go_wp2
      go_ret
      exact ⟨rfl, hx⟩
theorem eq_pairs (A A' : Option Addr) (c c' : Nat) (l : List (Int × Int)) (w : World) (hA : Pairs w A l) (hB : Pairs w A' l) (hl : l.length ≤ 9223372036854775807) :
    Calls Try.prog 55 #[.slice A l.length c, .slice A' l.length c'] w fun e w' => e = .returned (.bool true) ∧ Ext w w' := by
  go_enter Try.func55, Try.ntmps55
  go_wp2_with fail
  refine (equal_pairs A A' c c' l w hA hB hl).mono ?_
  rintro e w1 ⟨rfl, hb⟩
  go_wp2
  go_ret
  exact ⟨rfl, hb⟩
end Go.Proofs.Ytgnjhaomlbkgcaa

namespace Go.Proofs.Ytgnjhaomlbkgcaa
open Go Go.RowKit
set_option linter.unusedVariables false
set_option linter.unusedSimpArgs false

/-- What goes on while a row is copied and more numbers are laid behind it; desks stay. -/
def LaidM (B : Nat) (e : TypeId) (L : Nat) (xs nw : List Value) (w w' : World) : Prop :=
  Below B w w' ∧ (∀ v, w.ownsRow B e 1 v L xs → w'.ownsRow B e 1 v L xs) ∧ (∀ g, Rd0 w g (xs ++ nw) → Rd0 w' g (xs ++ nw)) ∧ ∀ (k : Nat) (cs : Array Value), w.heap[k]? = some (.cells cs 136 (0, 0)) → w'.heap[k]? = some (.cells cs 136 (0, 0))
section
variable {B : Nat} {e : TypeId} {L : Nat} {xs nw : List Value}
theorem LaidM.refl (w : World) : LaidM B e L xs nw w w := ⟨Below.refl _ _, fun _ h => h, fun _ h => h, fun _ _ h => h⟩
theorem LaidM.of_ext {w w' : World} (h : Ext w w') (hB : B ≤ w.heap.size) : LaidM B e L xs nw w w' :=
  ⟨Below.mono h hB, fun _ hv => own_below hv h, fun _ hg => hg.ext h, fun k cs hk => (Below.block h k (Array.getElem?_eq_some_iff.1 hk).1).trans hk⟩
theorem LaidM.of_grown {w w' : World} {g cap m : Nat} (hxs : xs.length = L) (hm : 0 < m) (h0 : w.ownsRow B 3 1 (.slice (some ⟨g, 0, none⟩) L cap) L xs) (h1 : w'.ownsRow B 3 1 (.slice (some ⟨g, 0, none⟩) (L + m) cap) (L + m) (xs ++ nw)) (hg : w.grownBy w' (some g)) : LaidM B 3 L xs nw w w' := by
  have hBg := (h0.lt g rfl)
  have hne : ∀ k, k < w.heap.size → k ≠ g → w'.heap[k]? = w.heap[k]? := fun k hk hkg => hg.block k hk (fun e => hkg (by cases e; rfl))
  have hr1 := rd0_own h1
  refine ⟨(Below.refl B w).grown hg (by omega) (fun k e => by cases e; exact hBg.1), fun v hv => ?_, fun k hk => ?_, fun k cs hk => ?_⟩
  · refine ⟨hv.1, ?_⟩
    rcases hv.2 with h | ⟨g2, cap2, cur2, rfl, b1, b2, b3, b4, b5, b6⟩
    · exact .inl h
    · by_cases hgg : g2 = g
      · subst hgg
        rcases h0.2 with ⟨h, _⟩ | ⟨g3, cap3, cur3, e3, c1, c2, c3, c4, c5, c6⟩
        · cases h
        · cases e3
          rw [b2] at c2
          cases c2
          rcases h1.2 with ⟨h, _⟩ | ⟨g4, cap4, cur4, e4, d1, d2, d3, d4, d5, d6⟩
          · cases h
          · cases e4
            refine .inr ⟨g2, cap2, cur4, rfl, b1, d2, b3, b4, by omega, ?_⟩
            have h2 := congrArg (List.take (L * 1)) d6
            rw [List.take_take, List.take_left' (by omega), show min (L * 1) ((L + m) * 1) = L * 1 by omega] at h2
            exact h2
      · exact .inr ⟨g2, cap2, cur2, rfl, b1, (hne g2 (Array.getElem?_eq_some_iff.1 b2).1 hgg).trans b2, b3, b4, b5, b6⟩
  · by_cases hkg : k = g
    · subst hkg; exact hr1
    · intro j u hu
      have h2 := hk j u hu
      exact (World.cell?_of_block (a := ⟨k, j, none⟩) (hne k (World.block_lt_of_cell? w _ h2) hkg)).trans h2
  · refine (hne k (Array.getElem?_eq_some_iff.1 hk).1 (fun e => ?_)).trans hk
    subst e
    rcases h0.2 with ⟨h, _⟩ | ⟨g3, cap3, cur3, e3, c1, c2, _⟩
    · cases h
    · cases e3
      rw [hk] at c2; cases c2
end
theorem run_append_zero (w : World) (A : Option Addr) (c : Nat) (A2 : Option Addr) (k : Nat) : (Builtin.append_ #[27, 27] 27 #[.slice A 0 c, .slice A2 0 k]).run Try.prog w = .ok (.slice A 0 c) w := by
  obtain ⟨ht, ⟨i, z, hi, hz, hsize, hby, hzs⟩, hsz, hbp⟩ := elem_int
  cases A <;> cases A2 <;> simp [Builtin.append_, run_underlying ht, sizeOf, typeInfo, hi, Builtin.lenOf, Builtin.firstCells, storeCells, loadCells, loadCellsFrom]
theorem elem_vd : ElemOK Try.prog 94 39 1 8 := by
  refine ⟨Try.underlying94, ?_, by decide, by decide⟩
  have h : ((Try.prog.info? 39).bind fun i => i.zero.map fun z => (i.size, i.bytes, z.cells.size)) = some (1, 8, 1) := by kernel_rfl
  cases hi : Try.prog.info? 39 with
  | none => rw [hi] at h; cases h
  | some i =>
    rw [hi] at h
    cases hz : i.zero with
    | none => simp [hz] at h
    | some z => simp [hz] at h; exact ⟨i, z, rfl, hz, h.1, h.2.1, h.2.2⟩
theorem verdict_desk (D : Nat) (A1 : Option Addr) (c1 : Nat) (A2 : Option Addr) (c2 : Nat) (c : Cs) (g : Mat) (w : World) (hd : Desk w D A1 c1 A2 c2 c g) (a b : Nat) (ha : a < 8) (hb : b < 8) : Calls Try.prog 82 #[.pointer (some ⟨D, 0, none⟩), .int .i64 a, .int .i64 b] w fun e w' => e = .returned (.int .i64 (verdictM g a b)) ∧ w' = w := by
  have h1 := hd.at_ ha hb
  have h2 := hd.at_ hb ha
  have ha' : (a : Int) < 8 := by omega
  have hb' : (b : Int) < 8 := by omega
  go_enter Try.func82, Try.ntmps82
  unfold verdictM
  by_cases q1 : g b a < 0
  · go_wp2
    go_ret
    exact ⟨ret_of (int_of (by simp [q1])), rfl⟩
  · by_cases q2 : g a b ≤ 0
    · go_wp2
      go_ret
      exact ⟨ret_of (int_of (by simp [q1, q2])), rfl⟩
    · go_wp2
      go_ret
      exact ⟨ret_of (int_of (by simp [q1, q2])), rfl⟩
/-- The error of Warned, and its verdicts. -/
def warnedC (c : Cs) (h l : List Int) : Int := if checkC c ≠ 0 then checkC c else if h.length ≠ l.length ∨ 8 < h.length then 2 else askedC c (h ++ l)
def vdsL (g : Mat) (h l : List Int) : List Int := (h.zip l).map fun p => verdictM g p.1.toNat p.2.toNat
theorem vds_get {g : Mat} {h l : List Int} {k x y : Nat} (hx : h[k]? = some (x : Int)) (hy : l[k]? = some (y : Int)) : (vdsL g h l)[k]? = some (verdictM g x y) := by
  have hz : (h.zip l)[k]? = some ((x : Int), (y : Int)) := List.getElem?_zip_eq_some.2 ⟨hx, hy⟩
  unfold vdsL
  rw [List.getElem?_map, hz]
  simp
theorem vds_len {g : Mat} {h l : List Int} (e : h.length = l.length) : (vdsL g h l).length = h.length := by
  unfold vdsL
  rw [List.length_map, List.length_zip]
  omega

set_option maxRecDepth 100000 in
set_option maxHeartbeats 4000000 in
theorem warned_any (v : Value) (c : Cs) (A A' : Option Addr) (kh kl : Nat) (heard late : List Int) (w : World) (hc : CsR w v c) (hs : c.sized) (hA : Ints w A heard) (hL : Ints w A' late) (hlh : heard.length ≤ 1000000) (hll : late.length ≤ 1000000) :
    Calls Try.prog 53 #[v, .slice A heard.length kh, .slice A' late.length kl] w fun e w' => ∃ r, e = .returned (.tuple #[r, .int .i64 (warnedC c heard late)]) ∧ Ext w w' ∧ (warnedC c heard late ≠ 0 → r = .slice none 0 0) ∧ (warnedC c heard late = 0 → ∃ A' c', r = .slice A' heard.length c' ∧ Ints w' A' (vdsL (gapsM allT c) heard late)) := by
  have hc' := hc
  obtain ⟨A1, c1, A2, c2, rfl, hB, hC⟩ := hc
  have HF : Hid (warnedC c heard late = if checkC c ≠ 0 then checkC c else if heard.length ≠ late.length ∨ 8 < heard.length then 2 else askedC c (heard ++ late)) := rfl
  obtain ⟨R, hR⟩ : ∃ R, warnedC c heard late = R := ⟨_, rfl⟩
  obtain ⟨K0, hK0⟩ : ∃ K0, checkC c = K0 := ⟨_, rfl⟩
  rw [hR, hK0] at HF
  rw [hR]
  have H0 := hid hK0
  have HSZ := hid hs
  obtain ⟨W0, hW0⟩ : ∃ W0, w.alloc (.cells #[.int .i64 c.ev, .slice A1 c.bs.length c1, .int .i64 c.wi, .slice A2 c.cl.length c2] 26) = W0 := ⟨_, rfl⟩
  have hx0 : Ext w W0 := by rw [← hW0]; exact Ext.alloc (Ext.refl w) _
  have FX : Hid (∀ w', Ext W0 w' → w'.cell? ⟨w.heap.size, 0, none⟩ = some (.int .i64 c.ev) ∧ w'.cell? ⟨w.heap.size, 1, none⟩ = some (.slice A1 c.bs.length c1) ∧ w'.cell? ⟨w.heap.size, 2, none⟩ = some (.int .i64 c.wi) ∧ w'.cell? ⟨w.heap.size, 3, none⟩ = some (.slice A2 c.cl.length c2)) := fun w' h => ⟨h.cell (by rw [← hW0]; simp [go_sem]), h.cell (by rw [← hW0]; simp [go_sem]), h.cell (by rw [← hW0]; simp [go_sem]), h.cell (by rw [← hW0]; simp [go_sem])⟩
  obtain ⟨q0, q1, q2, q3⟩ := FX.out W0 (Ext.refl _)
  have K1 := check_any _ c W0 (hc'.ext hx0) hs
  rw [hK0] at K1
  clear hR hK0
  go_enter Try.func53, Try.ntmps53
  go_wp2_with fail
  clear hW0 q0 q1 q2 q3
  refine K1.mono ?_
  clear K1
  rintro e w1 ⟨rfl, hb1⟩
  have hx1 := hx0.trans hb1
  by_cases h0 : K0 = 0
  case neg =>
    have HE : Hid (R = K0) := by unfold Hid; rw [HF.out, if_pos h0]
    have b3 : (K0 != 0) = true := by simpa using h0
    have HN0 := hid h0
    clear HF
    go_wp2
    go_ret2
    exact ⟨.slice none 0 0, ret_of (by rw [HE.out]; rfl), hx1, fun _ => rfl, fun h => absurd (HE.out.symm.trans h) HN0.out⟩
  subst h0
  have HF2 : Hid (R = if heard.length ≠ late.length ∨ 8 < heard.length then 2 else askedC c (heard ++ late)) := by unfold Hid; rw [HF.out, if_neg (by simp)]
  clear HF
  by_cases hlen : heard.length = late.length
  case neg =>
    have HE : Hid (R = 2) := by unfold Hid; rw [HF2.out, if_pos (.inl hlen)]
    have b3 : ((heard.length : Int) != (late.length : Int)) = true := by simp; omega
    clear HF2
    go_wp2
    go_ret2
    exact ⟨.slice none 0 0, ret_of (by rw [HE.out]; rfl), hx1, fun _ => rfl, fun h => absurd (HE.out.symm.trans h) (by decide)⟩
  have b3 : ((heard.length : Int) != (late.length : Int)) = false := by simp; omega
  have HLE := hid hlen
  have hll8 : ¬ 8 < heard.length → late.length ≤ 8 := fun h => by omega
  clear hlen
  by_cases h8 : 8 < heard.length
  · have HE : Hid (R = 2) := by unfold Hid; rw [HF2.out, if_pos (.inr h8)]
    have b4 : (8 : Int) < (heard.length : Int) := by omega
    clear HF2
    go_wp2
    go_ret2
    exact ⟨.slice none 0 0, ret_of (by rw [HE.out]; rfl), hx1, fun _ => rfl, fun h => absurd (HE.out.symm.trans h) (by decide)⟩
  have b4 : ¬ (8 : Int) < (heard.length : Int) := by omega
  have hl8 := hll8 h8
  clear hll8
  obtain ⟨AE, hAE⟩ : ∃ AE, askedC c (heard ++ late) = AE := ⟨_, rfl⟩
  have HAE := hid hAE
  have HF3 : Hid (R = AE) := by unfold Hid; rw [HF2.out, if_neg (by have := HLE.out; omega), hAE]
  have HC : Hid (∀ w', Ext w1 w' → CsR w' (.agg #[.int .i64 c.ev, .slice A1 c.bs.length c1, .int .i64 c.wi, .slice A2 c.cl.length c2]) c) := fun w' h => hc'.ext (hx1.trans h)
  have HH : Hid (∀ w', Ext w1 w' → Ints w' A heard) := fun w' h => hA.ext (hx1.trans h)
  have HLT : Hid (∀ w', Ext w1 w' → Ints w' A' late) := fun w' h => hL.ext (hx1.trans h)
  obtain ⟨q0, q1, q2, q3⟩ := FX.out w1 hb1
  clear hAE HF2 hA hL hB hC hc' hx1
  by_cases hz : heard.length = 0
  · obtain rfl : heard = [] := List.eq_nil_of_length_eq_zero hz
    obtain rfl : late = [] := List.eq_nil_of_length_eq_zero (by simpa using HLE.out.symm)
    simp only [List.length_nil, List.nil_append] at *
    go_wp2
    clear q0 q1 q2 q3
    refine wp_region_shut Ext (fun w' => Ext w1 w') (fun | 2 => some (fun v w' => ∃ A2 c2, v = .slice A2 0 c2) | 4 => some (fun v w' => ∃ A4 c4, v = .slice A4 0 c4) | 5 => some (fun v w' => ∃ r, v = .tuple #[r, .int .i64 AE] ∧ (AE ≠ 0 → r = .pointer none) ∧ (AE = 0 → ∃ Dk A1 c1 A2 c2, r = .pointer (some ⟨Dk, 0, none⟩) ∧ Desk w' Dk A1 c1 A2 c2 c (gapsM allT c))) | _ => none) (by kernel_rfl) (by kernel_rfl) (fun _ _ h k => h.trans k) ?hTz (Ext.drew (Ext.refl w1)) ?_
    case hTz =>
      intro i R hR
      match i, hR with
      | 2, hR => cases hR; exact fun _ _ _ h _ => h
      | 4, hR => cases hR; exact fun _ _ _ h _ => h
      | 5, hR => cases hR; exact fun _ _ _ ⟨r, e1, e2, e3⟩ k => ⟨r, e1, e2, fun e => by
          obtain ⟨Dk, A1, c1, A2, c2, f1, f2⟩ := e3 e
          exact ⟨Dk, A1, c1, A2, c2, f1, f2.ext k⟩⟩
    refine wM_val ?uz0 rfl rfl Ext.refl (fun w' hD => ?hz0) (fun phz0 => ?nz0)
    case hz0 =>
      obtain ⟨d0, d1, d2, d3⟩ := FX.out _ (hb1.trans hD.1)
      go_simp; rfl
    simp only [Act.put, List.setIfInBounds_toArray, List.set_cons_succ, List.set_cons_zero, Nat.reduceAdd]
    refine wM_val ?uz1 rfl rfl Ext.refl (fun w' hD => ?hz1) (fun phz1 => ?nz1)
    case hz1 =>
      obtain ⟨d0, d1, d2, d3⟩ := FX.out _ (hb1.trans hD.1)
      go_simp; rfl
    simp only [Act.put, List.setIfInBounds_toArray, List.set_cons_succ, List.set_cons_zero, Nat.reduceAdd]
    refine wM_op _ rfl rfl (opens_call ?fz2 ?gz2 (fun w' hD => ?hz2) (fun w' hD => ?cz2)) (fun v2 hv2 => ?nz2)
    case hz2 => go_simp; constructor <;> rfl
    case cz2 =>
      have K := clone_int A kh [] w' (Ints.nil _ _) (by simp)
      simp only [List.length_nil] at K
      refine K.mono ?_
      rintro e w2 ⟨A2, c2, rfl, -, -, hb⟩
      exact ⟨_, rfl, hb, A2, c2, rfl⟩
    obtain ⟨_, -, -, A2, c2, rfl⟩ := hv2
    simp only [Act.put, List.setIfInBounds_toArray, List.set_cons_succ, List.set_cons_zero, Nat.reduceAdd]
    refine wM_val ?uz3 rfl rfl Ext.refl (fun w' hD => ?hz3) (fun phz3 => ?nz3)
    case hz3 =>
      obtain ⟨d0, d1, d2, d3⟩ := FX.out _ (hb1.trans hD.1)
      go_simp; rfl
    simp only [Act.put, List.setIfInBounds_toArray, List.set_cons_succ, List.set_cons_zero, Nat.reduceAdd]
    refine wM_op _ rfl rfl (opens_val (fun w' hD => ?hz4)) (fun v4 hv4 => ?nz4)
    case hz4 =>
      refine ⟨.slice A2 0 c2, w', exec_append w' _ (.tmp 32) (.tmp 33) 27 ?_ _ _ ?_ ?_ _ _ (run_append_zero w' A2 c2 A' kl), Ext.refl _, A2, c2, rfl⟩
      · rfl
      · rfl
      · rfl
    obtain ⟨_, -, -, A4, c4, rfl⟩ := hv4
    simp only [Act.put, List.setIfInBounds_toArray, List.set_cons_succ, List.set_cons_zero, Nat.reduceAdd]
    refine wM_op _ rfl rfl (opens_call ?fz5 ?gz5 (fun w' hD => ?hz5) (fun w' hD => ?cz5)) (fun v5 hv5 => ?nz5)
    case hz5 => go_simp; constructor <;> rfl
    case cz5 =>
      have K := asked_any _ c A4 c4 [] w' (HC.out w' hD.1) HSZ.out (Ints.nil _ _) (by simp)
      simp only [List.length_nil] at K
      rw [HAE.out] at K
      refine K.mono ?_
      rintro e w2 ⟨r, rfl, hb, h1, h2⟩
      exact ⟨_, rfl, hb, r, rfl, h2, fun e => by obtain ⟨Dk, A1, c1, A2, c2, f1, f2, _⟩ := h1 e; exact ⟨Dk, A1, c1, A2, c2, f1, f2⟩⟩
    obtain ⟨_, -, -, r, rfl, -⟩ := hv5
    simp only [Act.put, List.setIfInBounds_toArray, List.set_cons_succ, List.set_cons_zero, Nat.reduceAdd]
    refine wM_val ?uz6 rfl rfl Ext.refl (fun w' hD => ?hz6) (fun phz6 => ?nz6)
    case hz6 =>
      obtain ⟨d0, d1, d2, d3⟩ := FX.out _ (hb1.trans hD.1)
      go_simp; rfl
    simp only [Act.put, List.setIfInBounds_toArray, List.set_cons_succ, List.set_cons_zero, Nat.reduceAdd]
    refine wM_val ?uz7 rfl rfl Ext.refl (fun w' hD => ?hz7) (fun phz7 => ?nz7)
    case hz7 =>
      obtain ⟨d0, d1, d2, d3⟩ := FX.out _ (hb1.trans hD.1)
      go_simp; rfl
    simp only [Act.put, List.setIfInBounds_toArray, List.set_cons_succ, List.set_cons_zero, Nat.reduceAdd]
    refine wM_val ?uz8 rfl rfl Ext.refl (fun w' hD => ?hz8) (fun phz8 => ?nz8)
    case hz8 =>
      obtain ⟨d0, d1, d2, d3⟩ := FX.out _ (hb1.trans hD.1)
      go_simp; rfl
    simp only [Act.put, List.setIfInBounds_toArray, List.set_cons_succ, List.set_cons_zero, Nat.reduceAdd]
    refine wM_val ?uz9 rfl rfl Ext.refl (fun w' hD => ?hz9) (fun phz9 => ?nz9)
    case hz9 =>
      obtain ⟨d0, d1, d2, d3⟩ := FX.out _ (hb1.trans hD.1)
      go_simp; rfl
    simp only [Act.put, List.setIfInBounds_toArray, List.set_cons_succ, List.set_cons_zero, Nat.reduceAdd]
    refine wM_val ?uz10 rfl rfl Ext.refl (fun w' hD => ?hz10) (fun phz10 => ?nz10)
    case hz10 =>
      obtain ⟨d0, d1, d2, d3⟩ := FX.out _ (hb1.trans hD.1)
      go_simp; rfl
    simp only [Act.put, List.setIfInBounds_toArray, List.set_cons_succ, List.set_cons_zero, Nat.reduceAdd]
    refine wM_nil ?_
    intro w2 hw2 hF9
    obtain ⟨-, r', e5, hr1, hr2⟩ := hF9 5
    cases e5
    clear hF9
    have h2 := hb1.trans hw2
    have hxw2 := hx0.trans h2
    by_cases hae : AE = 0
    case neg =>
      obtain rfl := hr1 hae
      have b9 : (AE != 0) = true := by simpa using hae
      have HE : Hid (R = AE) := by unfold Hid; rw [HF3.out]
      go_wp2
      go_ret2
      exact ⟨.slice none 0 0, ret_of (by rw [HE.out]; rfl), hxw2, fun _ => rfl, fun h => absurd (HE.out.symm.trans h) hae⟩
    obtain ⟨Dk, D1, e1, D2, e2, rfl, hdk⟩ := hr2 hae
    have HDK : Hid (∀ w', Ext w2 w' → Desk w' Dk D1 e1 D2 e2 c (gapsM allT c)) := fun w' h => hdk.ext h
    have HE : Hid (R = 0) := by unfold Hid; rw [HF3.out, hae]
    have hev := askedC_parts (HAE.out.trans hae)
    have HIN := hid hev.2.2
    have hev8 := checkC_ev hev.1
    subst hae
    clear hr1 hr2 hdk hev HF3
    go_wp2
    go_loopw [11, 12, 13, 43] (fun s _ _ i wr => i = .int .i64 0 ∧ s = .slice none 0 0 ∧ Ext w2 wr) (fun _ _ _ _ _ => 0)
    case atStart => exact ⟨rfl, rfl, Ext.refl _⟩
    case round =>
      obtain ⟨rfl, rfl, hx⟩ := hrel
      go_wp2
      go_ret2
      exact ⟨.slice none 0 0, ret_of (by rw [HE.out]; rfl), hxw2.trans hx, fun h => absurd HE.out h, fun _ => ⟨none, 0, rfl, Ints.nil _ _⟩⟩
  have hl0 : 0 < late.length := by have := HLE.out; omega
  obtain ⟨y0, hy0⟩ := get_of_lt late 0 hl0
  obtain ⟨bl, ol, rfl, -⟩ := (HLT.out w1 (Ext.refl _)).at_ hy0
  have HLC : Hid (∀ w', Ext w1 w' → ∀ j u, (icells late)[j]? = some u → w'.cell? ⟨bl, ol + j, none⟩ = some u) := fun w' h => by
    rcases HLT.out w' h with h2 | ⟨b, o, e, h2⟩
    · exact absurd hl0 (by rw [List.map_eq_nil_iff.1 h2]; simp)
    · cases e; exact h2
  clear hy0
  go_wp2
  clear q0 q1 q2 q3
  refine wp_region_shut (LaidM w1.heap.size 3 heard.length (icells heard) (icells late)) (fun w' => Ext w1 w' ∧ w1.heap.size ≤ w'.heap.size) (fun | 2 => some (fun v w' => ∃ A2 c2, v = .slice A2 heard.length c2 ∧ w'.ownsRow w1.heap.size 3 1 (.slice A2 heard.length c2) heard.length (icells heard)) | 4 => some (fun v w' => ∃ g c4, v = .slice (some ⟨g, 0, none⟩) (heard.length + late.length) c4 ∧ Rd0 w' g (icells heard ++ icells late)) | 5 => some (fun v w' => ∃ r, v = .tuple #[r, .int .i64 AE] ∧ (AE ≠ 0 → r = .pointer none) ∧ (AE = 0 → ∃ Dk A1 c1 A2 c2, r = .pointer (some ⟨Dk, 0, none⟩) ∧ Desk w' Dk A1 c1 A2 c2 c (gapsM allT c))) | _ => none) (by kernel_rfl) (by kernel_rfl) (fun _ _ h k => ⟨Below.trans h.1 k.1, Nat.le_trans h.2 k.1.size⟩) ?hTm ⟨Ext.drew (Ext.refl w1), Nat.le_refl _⟩ ?_
  case hTm =>
    intro i R hR
    match i, hR with
    | 2, hR => cases hR; exact fun _ _ _ ⟨A2, c2, e1, e2⟩ k => ⟨A2, c2, e1, k.2.1 _ e2⟩
    | 4, hR => cases hR; exact fun _ _ _ ⟨g, c4, e1, e2⟩ k => ⟨g, c4, e1, k.2.2.1 _ e2⟩
    | 5, hR => cases hR; exact fun _ _ _ ⟨r, e1, e2, e3⟩ k => ⟨r, e1, e2, fun e => by
        obtain ⟨Dk, A1, c1, A2, c2, f1, f2⟩ := e3 e
        exact ⟨Dk, A1, c1, A2, c2, f1, k.2.2.2 _ _ f2⟩⟩
  refine wM_val ?um0 rfl rfl LaidM.refl (fun w' hD => ?hm0) (fun phm0 => ?nm0)
  case hm0 =>
    obtain ⟨d0, d1, d2, d3⟩ := FX.out _ (hb1.trans hD.1.1)
    go_simp; rfl
  simp only [Act.put, List.setIfInBounds_toArray, List.set_cons_succ, List.set_cons_zero, Nat.reduceAdd]
  refine wM_val ?um1 rfl rfl LaidM.refl (fun w' hD => ?hm1) (fun phm1 => ?nm1)
  case hm1 =>
    obtain ⟨d0, d1, d2, d3⟩ := FX.out _ (hb1.trans hD.1.1)
    go_simp; rfl
  simp only [Act.put, List.setIfInBounds_toArray, List.set_cons_succ, List.set_cons_zero, Nat.reduceAdd]
  refine wM_op _ rfl rfl (opens_call ?fm2 ?gm2 (fun w' hD => ?hm2) (fun w' hD => ?cm2)) (fun v2 hv2 => ?nm2)
  case hm2 => go_simp; constructor <;> rfl
  case cm2 =>
    have K := clone_int A kh heard w' (HH.out w' hD.1.1) (by omega)
    refine K.mono ?_
    rintro e w2 ⟨A2, c2, rfl, ho, -, hb⟩
    exact ⟨_, rfl, LaidM.of_ext hb hD.1.2, A2, c2, rfl, own_base ho hD.1.2⟩
  obtain ⟨_, -, -, A2, c2, rfl, -⟩ := hv2
  simp only [Act.put, List.setIfInBounds_toArray, List.set_cons_succ, List.set_cons_zero, Nat.reduceAdd]
  refine wM_val ?um3 rfl rfl LaidM.refl (fun w' hD => ?hm3) (fun phm3 => ?nm3)
  case hm3 =>
    obtain ⟨d0, d1, d2, d3⟩ := FX.out _ (hb1.trans hD.1.1)
    go_simp; rfl
  simp only [Act.put, List.setIfInBounds_toArray, List.set_cons_succ, List.set_cons_zero, Nat.reduceAdd]
  refine wM_op _ rfl rfl (opens_val (fun w' hD => ?hm4)) (fun v4 hv4 => ?nm4)
  case hm4 =>
    have hsz2 : w1.heap.size ≤ w'.heap.size := hD.1.2
    obtain ⟨-, A3, c3, e3, ho⟩ := hD.get 2 (by first | kernel_rfl | simp [Region.binds])
    cases e3
    obtain ⟨A5, c5, w5, hrun, ho5, hk5⟩ := run_append_keep (P := Try.prog) w' 27 27 3 1 8 elem_int w1.heap.size _ heard.length _ ho ⟨bl, ol, none⟩ late.length kl (icells late) (by simp [icells]) (fun j u hu => by rw [Addr.add_lit]; exact HLC.out w' hD.1.1 j u hu) (icells_one _) (by omega) hsz2 (by omega)
    obtain ⟨g5, rfl⟩ : ∃ g5, A5 = some ⟨g5, 0, none⟩ := by
      rcases ho5.2 with ⟨h, h2⟩ | ⟨g, cap, cur, h, _⟩
      · omega
      · cases h; exact ⟨g, rfl⟩
    refine ⟨.slice (some ⟨g5, 0, none⟩) (heard.length + late.length) c5, w5, exec_append w' _ (.tmp 32) (.tmp 33) 27 ?_ _ _ ?_ ?_ _ _ hrun, ?_, g5, c5, rfl, rd0_own ho5⟩
    · rfl
    · rfl
    · rfl
    rcases hk5 with h | ⟨g, cap, e6, e7, rfl, _, hg⟩
    · exact LaidM.of_ext h hsz2
    · cases e6; cases e7
      exact LaidM.of_grown (by simp [icells]) (by omega) ho ho5 hg
  obtain ⟨_, -, -, g4, c4, rfl, -⟩ := hv4
  simp only [Act.put, List.setIfInBounds_toArray, List.set_cons_succ, List.set_cons_zero, Nat.reduceAdd]
  refine wM_op _ rfl rfl (opens_call ?fm5 ?gm5 (fun w' hD => ?hm5) (fun w' hD => ?cm5)) (fun v5 hv5 => ?nm5)
  case hm5 => go_simp; constructor <;> rfl
  case cm5 =>
    obtain ⟨-, g9, c9, e9, hr9⟩ := hD.get 4 (by first | kernel_rfl | simp [Region.binds])
    cases e9
    have K := asked_any _ c (some ⟨g4, 0, none⟩) c4 (heard ++ late) w' (HC.out w' hD.1.1) HSZ.out (by unfold Ints; rw [List.map_append]; exact hr9.rd) (by simp; omega)
    rw [List.length_append, HAE.out] at K
    refine K.mono ?_
    rintro e w2 ⟨r, rfl, hb, h1, h2⟩
    exact ⟨_, rfl, LaidM.of_ext hb hD.1.2, r, rfl, h2, fun e => by obtain ⟨Dk, A1, c1, A2, c2, f1, f2, _⟩ := h1 e; exact ⟨Dk, A1, c1, A2, c2, f1, f2⟩⟩
  obtain ⟨_, -, -, r, rfl, -⟩ := hv5
  simp only [Act.put, List.setIfInBounds_toArray, List.set_cons_succ, List.set_cons_zero, Nat.reduceAdd]
  refine wM_val ?um6 rfl rfl LaidM.refl (fun w' hD => ?hm6) (fun phm6 => ?nm6)
  case hm6 =>
    obtain ⟨d0, d1, d2, d3⟩ := FX.out _ (hb1.trans hD.1.1)
    go_simp; rfl
  simp only [Act.put, List.setIfInBounds_toArray, List.set_cons_succ, List.set_cons_zero, Nat.reduceAdd]
  refine wM_val ?um7 rfl rfl LaidM.refl (fun w' hD => ?hm7) (fun phm7 => ?nm7)
  case hm7 =>
    obtain ⟨d0, d1, d2, d3⟩ := FX.out _ (hb1.trans hD.1.1)
    go_simp; rfl
  simp only [Act.put, List.setIfInBounds_toArray, List.set_cons_succ, List.set_cons_zero, Nat.reduceAdd]
  refine wM_val ?um8 rfl rfl LaidM.refl (fun w' hD => ?hm8) (fun phm8 => ?nm8)
  case hm8 =>
    obtain ⟨d0, d1, d2, d3⟩ := FX.out _ (hb1.trans hD.1.1)
    go_simp; rfl
  simp only [Act.put, List.setIfInBounds_toArray, List.set_cons_succ, List.set_cons_zero, Nat.reduceAdd]
  refine wM_val ?um9 rfl rfl LaidM.refl (fun w' hD => ?hm9) (fun phm9 => ?nm9)
  case hm9 =>
    obtain ⟨d0, d1, d2, d3⟩ := FX.out _ (hb1.trans hD.1.1)
    go_simp; rfl
  simp only [Act.put, List.setIfInBounds_toArray, List.set_cons_succ, List.set_cons_zero, Nat.reduceAdd]
  refine wM_val ?um10 rfl rfl LaidM.refl (fun w' hD => ?hm10) (fun phm10 => ?nm10)
  case hm10 =>
    obtain ⟨d0, d1, d2, d3⟩ := FX.out _ (hb1.trans hD.1.1)
    go_simp; rfl
  simp only [Act.put, List.setIfInBounds_toArray, List.set_cons_succ, List.set_cons_zero, Nat.reduceAdd]
  refine wM_nil ?_
  intro w2 hw2 hF9
  obtain ⟨-, r', e5, hr1, hr2⟩ := hF9 5
  cases e5
  clear hF9
  have hw2 := hw2.1
  have h2 := hb1.trans hw2
  have hxw2 := hx0.trans h2
  by_cases hae : AE = 0
  case neg =>
    obtain rfl := hr1 hae
    have b9 : (AE != 0) = true := by simpa using hae
    have HE : Hid (R = AE) := by unfold Hid; rw [HF3.out]
    go_wp2
    go_ret2
    exact ⟨.slice none 0 0, ret_of (by rw [HE.out]; rfl), hxw2, fun _ => rfl, fun h => absurd (HE.out.symm.trans h) hae⟩
  obtain ⟨Dk, D1, e1, D2, e2, rfl, hdk⟩ := hr2 hae
  have HDK : Hid (∀ w', Ext w2 w' → Desk w' Dk D1 e1 D2 e2 c (gapsM allT c)) := fun w' h => hdk.ext h
  have HE : Hid (R = 0) := by unfold Hid; rw [HF3.out, hae]
  have hev := askedC_parts (HAE.out.trans hae)
  have HIN := hid hev.2.2
  have hev8 := checkC_ev hev.1
  subst hae
  clear hr1 hr2 hdk hev HF3
  obtain ⟨g, hg⟩ : ∃ g, gapsM allT c = g := ⟨_, rfl⟩
  rw [hg] at HDK
  have HG := hid hg
  clear hg
  go_wp2
  go_loopw [11, 12, 13, 43] (fun s _ _ i wr => ∃ (k : Nat) (A' : Option Addr) (c' : Nat), k ≤ heard.length ∧ i = .int .i64 (k : Int) ∧ s = .slice A' k c' ∧ Ext w2 wr ∧ Hid (wr.ownsRow w2.heap.size 39 1 (.slice A' k c') k (icells ((vdsL g heard late).take k)))) (fun _ _ _ i _ => heard.length - (intOf i).toNat)
  case atStart => exact ⟨0, none, 0, Nat.zero_le _, rfl, rfl, Ext.refl _, own_nil _ _ _ _⟩
  case round =>
    obtain ⟨k, A5, k5, hk, rfl, rfl, hx, O⟩ := hrel
    by_cases hlt : k < heard.length
    · have hlt' : (k : Int) < (heard.length : Int) := by omega
      obtain ⟨x, hxk⟩ := get_of_lt heard k hlt
      obtain ⟨y, hyk⟩ := get_of_lt late k (by have := HLE.out; omega)
      have hx8 := HIN.out x (List.mem_append.2 (.inl (mem_of_get hxk)))
      have hy8 := HIN.out y (List.mem_append.2 (.inr (mem_of_get hyk)))
      obtain ⟨b3, o3, rfl, cx⟩ := (HH.out wr (hw2.trans hx)).at_ hxk
      obtain ⟨b4, o4, e4, cy⟩ := (HLT.out wr (hw2.trans hx)).at_ hyk
      obtain ⟨xn, rfl⟩ : ∃ n : Nat, x = n := ⟨x.toNat, by omega⟩
      obtain ⟨yn, rfl⟩ : ∃ n : Nat, y = n := ⟨y.toNat, by omega⟩
      have HT : Hid ((vdsL g heard late).take (k + 1) = (vdsL g heard late).take k ++ [verdictM g xn yn]) := take_next (vds_get hxk hyk)
      have hlt2 : (k : Int) < (late.length : Int) := by have := HLE.out; omega
      have K := verdict_desk Dk D1 e1 D2 e2 c g wr (HDK.out wr hx) xn yn (by omega) (by omega)
      have HK := hid K
      clear K hxk hyk
      cases e4
      go_wp2_with fail
      refine HK.out.mono ?_
      clear HK cx cy
      rintro e w3 ⟨rfl, rfl⟩
      obtain ⟨wr, rfl⟩ : ∃ wr : World, wr = w3 := ⟨_, rfl⟩
      have hsz := hx.size
      generalize verdictM g xn yn = vd at *
      have hxo := Ext.alloc (Ext.refl wr) (.cells #[.int .i64 vd] 39)
      have hbase : w2.heap.size ≤ (wr.alloc (.cells #[.int .i64 vd] 39)).heap.size := by have := hxo.size; omega
      have O2 := hid (own_below O.out hxo)
      have hFk : (k + 1) * 8 ≤ 140737488355328 := by omega
      clear O
      go_wp2_with (at_builtin; refine wpList_append_rd _ rfl _ _ 94 rfl elem_vd w2.heap.size _ k (icells ((vdsL g heard late).take k)) rfl O2.out _ 1 1 (icells [vd]) rfl rfl (rd_block (heap_alloc_new wr _)) (icells_one _) hFk hbase ?_)
      intro A6 k6 w5 hown5 hbel5 hgr5 _
      have hx5 : Ext w2 w5 := Below.trans (hx.trans hxo) hbel5
      have O5 : Hid (w5.ownsRow w2.heap.size 39 1 (.slice A6 (k + 1) k6) (k + 1) (icells ((vdsL g heard late).take (k + 1)))) := by
        unfold Hid; rw [HT.out, icells_app]; exact hown5
      clear hown5 hbel5 hgr5 O2 hxo
      go_wp2
      go_roundw
      case rel => exact ⟨k + 1, A6, k6, by omega, by go_num, rfl, hx5, O5⟩
      case measure => simp [intOf]; omega
    · have hlt' : ¬ (k : Int) < (heard.length : Int) := by omega
      obtain rfl : k = heard.length := by omega
      have hO := O.out
      rw [List.take_of_length_le (by rw [vds_len HLE.out]; omega)] at hO
      have HO2 := hid hO
      clear O hO
      go_wp2
      go_ret2
      exact ⟨.slice A5 heard.length k5, ret_of (by rw [HE.out]; rfl), hxw2.trans hx, fun h => absurd HE.out h, fun _ => ⟨A5, ⟨k5, rfl⟩, by rw [HG.out]; exact Rd.of_own HO2.out⟩⟩
end Go.Proofs.Ytgnjhaomlbkgcaa

namespace Go.Proofs.Ytgnjhaomlbkgcaa
open Go Go.RowKit
set_option linter.unusedVariables false
set_option linter.unusedSimpArgs false

theorem who_no_yes {c : Cs} (h0 : checkC c = 0) (hc : clashM (gapsM allT c) = false) {a b : Nat} (ha : (a : Int) < c.ev) (hb : (b : Int) < c.ev) :
    noR (belT (rl c.wi.toNat fun _ => true)) c a b = decide (gapsM allT c a b ≤ 0) ∧ yesR (belT (rl c.wi.toNat fun _ => true)) c a b = decide (gapsM allT c b a < 0) := by
  have h := rows_ok h0 hc ha hb
  rw [h.no, h.yes]
  generalize gapsM allT c a b = G
  generalize gapsM allT c b a = H
  unfold far
  constructor
  · rw [Bool.eq_iff_iff]; simp only [Bool.and_eq_true, decide_eq_true_eq]; omega
  · rw [Bool.eq_iff_iff]; simp only [Bool.and_eq_true, decide_eq_true_eq]; omega
/-- The witnesses that Liars tells, and those that Needed tells; nothing where there is an error. -/
def liarsL (c : Cs) : List Int := if checkC c ≠ 0 then [] else (fewL (liarsP c) c.wi.toNat).getD []
def neededL (c : Cs) (a b : Int) : List Int := if askedC c [a, b] ≠ 0 then [] else (fewL (neededP c a.toNat b.toNat) c.wi.toNat).getD []
theorem fewL_len {p : List Int → Bool} {wi : Nat} {l : List Int} (h : fewL p wi = some l) : l.length ≤ wi := by
  rcases (fewL_some h).1.len with h1 | h1
  · omega
  · subst h1; simp
theorem liarsL_len (c : Cs) : (liarsL c).length ≤ c.wi.toNat := by
  unfold liarsL
  split
  · simp
  · rcases h : fewL (liarsP c) c.wi.toNat with _ | l
    · simp
    · exact fewL_len h
theorem neededL_len (c : Cs) (a b : Int) : (neededL c a b).length ≤ c.wi.toNat := by
  unfold neededL
  split
  · simp
  · rcases h : fewL (neededP c a.toNat b.toNat) c.wi.toNat with _ | l
    · simp
    · exact fewL_len h
theorem liarsL_small (c : Cs) : (liarsL c).length ≤ 6 := by
  have h := liarsL_len c
  unfold liarsL at *
  split
  · simp
  · rename_i h0
    rw [if_neg h0] at h
    have hwi := (manyOK_parts (checkC_ok (by simpa using h0)).1).2.2.2
    omega
theorem neededL_small (c : Cs) (a b : Int) : (neededL c a b).length ≤ 6 := by
  have h := neededL_len c a b
  unfold neededL at *
  split
  · simp
  · rename_i h0
    rw [if_neg h0] at h
    have hwi := (manyOK_parts (checkC_ok (askedC_parts (by simpa using h0)).1).1).2.2.2
    omega
theorem liarsL_err {c : Cs} (h : liarsC c ≠ 0) : liarsL c = [] := by
  unfold liarsL
  unfold liarsC at h
  by_cases h0 : checkC c ≠ 0
  · rw [if_pos h0]
  · rw [if_neg h0] at h ⊢
    rcases hf : fewL (liarsP c) c.wi.toNat with _ | l
    · rfl
    · rw [hf] at h; exact absurd rfl h
theorem neededL_err {c : Cs} {a b : Int} (h : neededC c a b ≠ 0) : neededL c a b = [] := by
  unfold neededL
  unfold neededC at h
  by_cases h0 : askedC c [a, b] ≠ 0
  · rw [if_pos h0]
  · rw [if_neg h0] at h ⊢
    rcases hf : fewL (neededP c a.toNat b.toNat) c.wi.toNat with _ | l
    · rfl
    · rw [hf] at h; exact absurd rfl h
theorem liarsL_ok {c : Cs} {l : List Int} (h : liarsC c = 0) (hf : fewL (liarsP c) c.wi.toNat = some l) : liarsL c = l := by
  unfold liarsL
  have h0 : checkC c = 0 := by
    unfold liarsC at h
    by_cases h0 : checkC c = 0
    · exact h0
    · rw [if_pos h0] at h; exact absurd h h0
  rw [if_neg (by simp [h0]), hf]; rfl
theorem neededL_ok {c : Cs} {a b : Int} {l : List Int} (h : neededC c a b = 0) (hf : fewL (neededP c a.toNat b.toNat) c.wi.toNat = some l) : neededL c a b = l := by
  unfold neededL
  have h0 : askedC c [a, b] = 0 := by
    unfold neededC at h
    by_cases h0 : askedC c [a, b] = 0
    · exact h0
    · rw [if_pos h0] at h; exact absurd h h0
  rw [if_neg (by simp [h0]), hf]; rfl
/-- A call that answers a row of numbers and an error. -/
def ListPost (w : World) (L : List Int) (E : Int) (e : Ending) (w' : World) : Prop := ∃ A' k', e = .returned (.tuple #[.slice A' L.length k', .int .i64 E]) ∧ Ints w' A' L ∧ Ext w w'
theorem liars_row (v : Value) (c : Cs) (w : World) (hc : CsR w v c) (hs : c.sized) : Calls Try.prog 58 #[v] w (ListPost w (liarsL c) (liarsC c)) := by
  refine (liars_any v c w hc hs).mono ?_
  rintro e w' ⟨r, rfl, hx, h1, h2⟩
  by_cases h : liarsC c = 0
  · obtain ⟨l, A', c', e1, rfl, hI⟩ := h2 h
    refine ⟨A', c', ?_, ?_, hx⟩
    · rw [liarsL_ok h e1]
    · rw [liarsL_ok h e1]; exact hI
  · obtain rfl := h1 h
    refine ⟨none, 0, ?_, ?_, hx⟩
    · rw [liarsL_err h]; rfl
    · rw [liarsL_err h]; exact Ints.nil _ _
theorem needed_row (v : Value) (c : Cs) (a b : Int) (w : World) (hc : CsR w v c) (hs : c.sized) : Calls Try.prog 59 #[v, .int .i64 a, .int .i64 b] w (ListPost w (neededL c a b) (neededC c a b)) := by
  refine (needed_any v c a b w hc hs).mono ?_
  rintro e w' ⟨r, rfl, hx, h1, h2⟩
  by_cases h : neededC c a b = 0
  · obtain ⟨l, A', c', e1, rfl, hI⟩ := h2 h
    refine ⟨A', c', ?_, ?_, hx⟩
    · rw [neededL_ok h e1]
    · rw [neededL_ok h e1]; exact hI
  · obtain rfl := h1 h
    refine ⟨none, 0, ?_, ?_, hx⟩
    · rw [neededL_err h]; rfl
    · rw [neededL_err h]; exact Ints.nil _ _
theorem refliars_row (v : Value) (c : Cs) (w : World) (hc : CsR w v c) (hs : c.sized) (h0 : checkC c = 0) : Calls Try.prog 56 #[v] w (ListPost w (liarsL c) (liarsC c)) := by
  refine (refliars_any v c w hc hs h0).mono ?_
  rintro e w' ⟨hx, ⟨hf, rfl⟩ | ⟨l, A', c', hf, rfl, hI, _⟩⟩
  · have h1 : liarsC c = 7 := by unfold liarsC; rw [if_neg (by simp [h0]), hf]
    refine ⟨none, 0, ?_, ?_, hx⟩
    · rw [liarsL_err (by rw [h1]; decide), h1]; rfl
    · rw [liarsL_err (by rw [h1]; decide)]; exact Ints.nil _ _
  · have h1 : liarsC c = 0 := by unfold liarsC; rw [if_neg (by simp [h0]), hf]
    refine ⟨A', c', ?_, ?_, hx⟩
    · rw [liarsL_ok h1 hf, h1]
    · rw [liarsL_ok h1 hf]; exact hI
theorem refneeded_row (v : Value) (c : Cs) (a b : Int) (w : World) (hc : CsR w v c) (hs : c.sized) (h0 : askedC c [a, b] = 0) : Calls Try.prog 57 #[v, .int .i64 a, .int .i64 b] w (ListPost w (neededL c a b) (neededC c a b)) := by
  obtain ⟨hk, ht, hlt⟩ := askedC_parts h0
  have ha := hlt a (by simp)
  have hb := hlt b (by simp)
  have hcl : clashM (gapsM allT c) = false := by
    unfold toldC at ht
    rw [if_pos hk] at ht
    cases hq : clashM (gapsM allT c)
    · rfl
    · rw [hq] at ht; cases ht
  have e1 : ((a.toNat : Nat) : Int) = a := by omega
  have e2 : ((b.toNat : Nat) : Int) = b := by omega
  have K := refneeded_any v c a.toNat b.toNat w hc hs hk hcl (by omega) (by omega)
  rw [e1, e2] at K
  refine K.mono ?_
  rintro e w' ⟨hx, ⟨hf, rfl⟩ | ⟨l, A', c', hf, rfl, hI, _⟩⟩
  · have h1 : neededC c a b = 6 := by unfold neededC; rw [if_neg (by simp [h0]), hf]
    refine ⟨none, 0, ?_, ?_, hx⟩
    · rw [neededL_err (by rw [h1]; decide), h1]; rfl
    · rw [neededL_err (by rw [h1]; decide)]; exact Ints.nil _ _
  · have h1 : neededC c a b = 0 := by unfold neededC; rw [if_neg (by simp [h0]), hf]
    refine ⟨A', c', ?_, ?_, hx⟩
    · rw [neededL_ok h1 hf, h1]
    · rw [neededL_ok h1 hf]; exact hI
theorem who_err {c : Cs} {a b : Int} (h : askedC c [a, b] ≠ 0) : neededL c a b = [] ∧ neededC c a b = askedC c [a, b] := by
  refine ⟨?_, ?_⟩
  · unfold neededL; rw [if_pos h]
  · unfold neededC; rw [if_pos h]
theorem who_check {c : Cs} (h : checkC c ≠ 0) : liarsL c = [] ∧ liarsC c = checkC c := by
  refine ⟨?_, ?_⟩
  · unfold liarsL; rw [if_pos h]
  · unfold liarsC; rw [if_pos h]
/-- The reference's way to the error of persons: events are gone over one by one. -/
def stU (U0 : Int) (ev : Int) (L : List Int) (k : Nat) : Int := if U0 ≠ 0 then U0 else if (L.take k).all (fun n => inB n 0 (ev - 1)) then 0 else 1
theorem stU_zero (U0 ev : Int) (L : List Int) : stU U0 ev L 0 = U0 := by
  unfold stU
  split
  · rfl
  · rename_i h; simp at h; simp [h]
theorem stU_keep {U0 ev : Int} {L : List Int} {k : Nat} (hk : k < L.length) (h : stU U0 ev L k ≠ 0) : stU U0 ev L (k + 1) = stU U0 ev L k := by
  unfold stU at *
  by_cases h0 : U0 ≠ 0
  · rw [if_pos h0, if_pos h0]
  · rw [if_neg h0] at h ⊢
    rw [if_neg h0]
    cases hq : (L.take k).all (fun n => inB n 0 (ev - 1))
    · have : (L.take (k + 1)).all (fun n => inB n 0 (ev - 1)) = false := by
        rw [take_next (List.getElem?_eq_getElem hk), List.all_append, hq]; rfl
      rw [this]
    · rw [hq] at h; exact absurd rfl h
theorem stU_step {U0 ev : Int} {L : List Int} {k : Nat} {x : Int} (hx : L[k]? = some x) (h : stU U0 ev L k = 0) : stU U0 ev L (k + 1) = if inB x 0 (ev - 1) then 0 else 1 := by
  unfold stU at *
  by_cases h0 : U0 ≠ 0
  · rw [if_pos h0] at h; exact absurd h h0
  · rw [if_neg h0] at h ⊢
    have hq : (L.take k).all (fun n => inB n 0 (ev - 1)) = true := by
      cases hq : (L.take k).all (fun n => inB n 0 (ev - 1))
      · rw [hq] at h; cases h
      · rfl
    rw [take_next hx, List.all_append, hq]
    simp
theorem stU_end {c : Cs} {heard late : List Int} (h0 : checkC c = 0) {U0 : Int} (hU : (if heard.length ≠ late.length ∨ 8 < heard.length then (2 : Int) else 0) = U0) : warnedC c heard late = if stU U0 c.ev (heard ++ late) (heard ++ late).length ≠ 0 then stU U0 c.ev (heard ++ late) (heard ++ late).length else toldC c := by
  unfold warnedC
  rw [if_neg (by simp [h0])]
  unfold stU
  rw [List.take_length]
  by_cases hb : heard.length ≠ late.length ∨ 8 < heard.length
  · rw [if_pos hb] at hU ⊢
    subst hU
    rfl
  · rw [if_neg hb] at hU ⊢
    subst hU
    unfold askedC
    rw [if_pos h0]
    simp only [ne_eq, not_true_eq_false, if_false]
    cases (heard ++ late).all (fun n => inB n 0 (c.ev - 1)) <;> simp
theorem warned_row (v : Value) (c : Cs) (A A' : Option Addr) (kh kl : Nat) (heard late : List Int) (w : World) (hc : CsR w v c) (hs : c.sized) (hA : Ints w A heard) (hL : Ints w A' late) (hlh : heard.length ≤ 1000000) (hll : late.length ≤ 1000000) :
    Calls Try.prog 53 #[v, .slice A heard.length kh, .slice A' late.length kl] w (ListPost w (if warnedC c heard late = 0 then vdsL (gapsM allT c) heard late else []) (warnedC c heard late)) := by
  refine (warned_any v c A A' kh kl heard late w hc hs hA hL hlh hll).mono ?_
  rintro e w' ⟨r, rfl, hx, h1, h2⟩
  by_cases h : warnedC c heard late = 0
  · obtain ⟨A2, k2, rfl, hI⟩ := h2 h
    have hlen : heard.length = late.length := by
      by_cases hb : heard.length = late.length
      · exact hb
      · exfalso
        unfold warnedC at h
        by_cases h0 : checkC c = 0
        · rw [if_neg (by simp [h0]), if_pos (.inl hb)] at h; cases h
        · rw [if_pos h0] at h; exact h0 h
    rw [if_pos h]
    exact ⟨A2, k2, by rw [vds_len hlen], hI, hx⟩
  · obtain rfl := h1 h
    rw [if_neg h]
    exact ⟨none, 0, rfl, Ints.nil _ _, hx⟩
theorem order_row (v : Value) (c : Cs) (w : World) (hc : CsR w v c) (hs : c.sized) : Calls Try.prog 51 #[v] w fun e w' => ∃ A' k', e = .returned (.tuple #[.slice A' (if toldC c = 0 then orderL c else []).length k', .int .i64 (toldC c)]) ∧ Pairs w' A' (if toldC c = 0 then orderL c else []) ∧ Ext w w' := by
  refine (order_any v c w hc hs).mono ?_
  rintro e w' ⟨r, rfl, hx, h1, h2⟩
  by_cases h : toldC c = 0
  · obtain ⟨A2, k2, rfl, hI⟩ := h2 h
    rw [if_pos h]
    exact ⟨A2, k2, rfl, Rd.of_own hI, hx⟩
  · obtain rfl := h1 h
    rw [if_neg h]
    exact ⟨none, 0, rfl, Rd.nil _ _, hx⟩
theorem order_len (c : Cs) (h0 : checkC c = 0) : (orderL c).length ≤ 64 := by
  have hev := checkC_ev h0
  have hr : ∀ x k, (rowO (gapsM allT c) x k).length ≤ k := fun x k => by
    unfold rowO
    rw [List.length_map]
    exact Nat.le_trans (List.length_filter_le _ _) (by simp)
  have h : ∀ a n, ((List.range a).flatMap fun x => rowO (gapsM allT c) x n).length ≤ a * n := by
    intro a n
    induction a with
    | zero => simp
    | succ a ih =>
      rw [List.range_succ, List.flatMap_append, List.length_append]
      have := hr a n
      simp only [List.flatMap_cons, List.flatMap_nil, List.append_nil]
      rw [Nat.add_mul]
      omega
  unfold orderL orderTo
  rw [List.length_append]
  have h1 := h c.ev.toNat c.ev.toNat
  have h2 := hr c.ev.toNat 0
  have h3 : c.ev.toNat * c.ev.toNat ≤ 8 * 8 := Nat.mul_le_mul (by omega) (by omega)
  omega
end Go.Proofs.Ytgnjhaomlbkgcaa
