/- The Go function laurellaw10.WarnRows returns true for every call, and leaves what is passed in as it was: no further condition. -/
import Derived.Test.YtgnjhaomlbkgcaaBase
import Derived.Test.YtgnjhaomlbkgcaaProg
import Derived.Test.YtgnjhaomlbkgcaaWMadeP
import Derived.Test.YtgnjhaomlbkgcaaWAsk2
import Derived.Test.YtgnjhaomlbkgcaaWLiars2
import Derived.Test.YtgnjhaomlbkgcaaWRing
import Derived.Test.YtgnjhaomlbkgcaaWMade
import Derived.Laws.ResultCell
import Derived.Test.YtgnjhaomlbkgcaaRowsA
import Derived.Test.YtgnjhaomlbkgcaaWShows
import Derived.Test.YtgnjhaomlbkgcaaDup
import Derived.Laws.StructEq
import Derived.Test.YtgnjhaomlbkgcaaRows
import Derived.WalkKit
import Derived.ProofKit
import Derived.OpenShut
import Derived.ShutString
import Derived.ChangeOld
import Derived.Below
namespace Go.Proofs.Ytgnjhaomlbkgcaa
open Go Go.RowKit
set_option linter.unusedVariables false
set_option linter.unusedSimpArgs false

theorem eq_drop {l m : List Int} {k : Nat} {x y : Int} (hx : l[k]? = some x) (hy : m[k]? = some y) : (l.drop k == m.drop k) = ((x == y) && (l.drop (k + 1) == m.drop (k + 1))) := by
  have h1 : k < l.length := (List.getElem?_eq_some_iff.1 hx).1
  have h2 : k < m.length := (List.getElem?_eq_some_iff.1 hy).1
  rw [List.drop_eq_getElem_cons h1, List.drop_eq_getElem_cons h2, (List.getElem?_eq_some_iff.1 hx).2, (List.getElem?_eq_some_iff.1 hy).2]
  rfl

set_option maxRecDepth 100000 in
set_option maxHeartbeats 1000000 in
theorem equal_int (A A' : Option Addr) (c c' : Nat) (l m : List Int) (w : World) (hA : Ints w A l) (hB : Ints w A' m) (hl : l.length ≤ 9223372036854775807) (hm : m.length ≤ 9223372036854775807) :
    Calls Try.prog 94 #[.slice A l.length c, .slice A' m.length c'] w fun e w' => e = .returned (.bool (l == m)) ∧ Ext w w' := by
  by_cases hlen : l.length = m.length
  · generalize hN : m.length = N at *
    have HF : Hid ((l.drop 0 == m.drop 0) = (l == m)) := rfl
    generalize hF : (l == m) = F at HF ⊢
    clear hF
    have hn1 : (l.length : Int) = N := by omega
    obtain rfl : l.length = N := hlen
    clear hn1
    have HN := hid hN
    clear hN
    go_enter Try.func94, Try.ntmps94
    go_wp2
    go_loopw [5, 13] (fun _ i wr => ∃ k : Nat, k ≤ l.length ∧ i = .int .i64 (k : Int) ∧ Ext w wr ∧ Hid ((l.drop k == m.drop k) = F)) (fun _ i _ => l.length - (intOf i).toNat)
    case atStart => exact ⟨0, Nat.zero_le _, rfl, Ext.refl _, HF⟩
    case round =>
      obtain ⟨k, hk, rfl, hx, HF⟩ := hrel
      by_cases hlt : k < l.length
      · have hlt' : (k : Int) < (l.length : Int) := by omega
        obtain ⟨x, hx1⟩ := get_of_lt l k hlt
        obtain ⟨y, hy1⟩ := get_of_lt m k (by rw [HN.out]; exact hlt)
        obtain ⟨b1, o1, rfl, g1⟩ := (hA.ext hx).at_ hx1
        obtain ⟨b2, o2, rfl, g2⟩ := (hB.ext hx).at_ hy1
        have HX : Hid (((x == y) && (l.drop (k + 1) == m.drop (k + 1))) = F) := by unfold Hid; rw [← HF.out, eq_drop hx1 hy1]
        clear HF hx1 hy1
        by_cases hxy : x = y
        · subst hxy
          have hq : (x != x) = false := by simp
          have HX2 : Hid ((l.drop (k + 1) == m.drop (k + 1)) = F) := by unfold Hid; rw [← HX.out]; simp
          go_wp2
          go_quiet (fail)
          go_wp2
          go_roundw
          case rel => exact ⟨k + 1, by omega, by go_num, hx.drewN _, HX2⟩
          case measure => simp [intOf]; omega
        · have hq : (x != y) = true := by simpa using hxy
          have HX2 : Hid (false = F) := by unfold Hid; rw [← HX.out]; simp [hxy]
          go_wp2
          go_quiet (fail)
          go_wp2
          go_ret
          exact ⟨ret_of (bool_of HX2.out), hx.drewN _⟩
      · have hlt' : ¬ (k : Int) < (l.length : Int) := by omega
        have HX2 : Hid (true = F) := by
          unfold Hid
          rw [← HF.out, List.drop_eq_nil_of_le (by omega), List.drop_eq_nil_of_le (by rw [HN.out]; omega)]; rfl
        go_wp2
        go_ret
        exact ⟨ret_of (bool_of HX2.out), hx⟩
  · have hq : ((l.length : Int) != (m.length : Int)) = true := by simp; omega
    have HF : Hid ((l == m) = false) := by
      unfold Hid
      rw [beq_eq_false_iff_ne]
      intro e; exact hlen (by rw [e])
    generalize hF : (l == m) = F at HF ⊢
    clear hF
    go_enter Try.func94, Try.ntmps94
    go_wp2
    go_ret
    exact ⟨ret_of (bool_of HF.out.symm), Ext.refl _⟩

theorem eq_int (A A' : Option Addr) (c c' : Nat) (l m : List Int) (w : World) (hA : Ints w A l) (hB : Ints w A' m) (hl : l.length ≤ 9223372036854775807) (hm : m.length ≤ 9223372036854775807) :
    Calls Try.prog 32 #[.slice A l.length c, .slice A' m.length c'] w fun e w' => e = .returned (.bool (l == m)) ∧ Ext w w' := by
  generalize hF : (l == m) = F
  have HF := hid hF
  clear hF
  go_enter Try.func32, Try.ntmps32
  go_wp2_with fail
  refine (equal_int A A' c c' l m w hA hB hl hm).mono ?_
  rw [HF.out]
  rintro e w1 ⟨rfl, hb⟩
  go_wp2
  go_ret
  exact ⟨rfl, hb⟩
end Go.Proofs.Ytgnjhaomlbkgcaa

namespace Go.Proofs.Ytgnjhaomlbkgcaa
open Go Go.RowKit
set_option linter.unusedVariables false
set_option linter.unusedSimpArgs false

def hornC (l : List Cl) : Cs := ⟨4, [⟨0, 1, 30⟩, ⟨1, 0, 0⟩, ⟨1, 2, 6⟩, ⟨2, 1, -2⟩, ⟨0, 3, 50⟩, ⟨3, 0, -40⟩], 2, l⟩
def lieL : List Cl := [⟨0, [⟨1, 0, -50⟩]⟩]
def tru (a b c d : Int) : Nat → Int := fun k => match k with | 0 => a | 1 => b | 2 => c | _ => d
theorem gap_eq {tf : Int → Bool} {c : Cs} {t : Nat → Int} (h0 : checkC c = 0) (ht : TruthOf (belL tf c) t) {a b : Nat} (ha : a < 8) (hb : b < 8) {l : List Bd} (hr : Row (belL tf c) a b l) (hs : sumW l = t b - t a) : gapsM tf c a b = t b - t a := by
  have h1 := gap_le h0 ht.fine ha hb hr
  have h2 := ht.gap h0 ha hb (gap_lt_far h0 ht.fine ha hb hr)
  omega
theorem horn_check (l : List Cl) (h : l = [] ∨ l = lieL) : checkC (hornC l) = 0 := by
  rcases h with rfl | rfl <;> decide
theorem horn_truth {t : Nat → Int} (h : ∀ x ∈ (hornC []).bs, t x.t.toNat ≤ t x.f.toNat + x.m) : TruthOf (belL allT (hornC [])) t := by
  rw [belL_all]
  intro x hx
  exact h x (by simpa [Cs.all, hornC] using hx)
theorem horn_t1 : TruthOf (belL allT (hornC [])) (tru 0 30 36 40) := horn_truth (by decide)
theorem horn_t2 : TruthOf (belL allT (hornC [])) (tru 0 0 2 50) := horn_truth (by decide)
theorem horn_row {a b : Nat} {l : List Bd} (hm : ∀ x ∈ l, x ∈ (hornC []).bs) (hc : chn a l) (he : endW a l = b) : Row (belL allT (hornC [])) a b l := by
  rw [belL_all]
  exact ⟨fun x hx => by have := hm x hx; simpa [Cs.all, hornC] using this, hc, he⟩
theorem horn_g02 : gapsM allT (hornC []) 0 2 = 36 :=
  gap_eq (l := [⟨0, 1, 30⟩, ⟨1, 2, 6⟩]) (horn_check [] (.inl rfl)) horn_t1 (by omega) (by omega) (horn_row (by decide) ⟨rfl, rfl, trivial⟩ rfl) rfl
theorem horn_g32 : gapsM allT (hornC []) 3 2 = -4 :=
  gap_eq (l := [⟨3, 0, -40⟩, ⟨0, 1, 30⟩, ⟨1, 2, 6⟩]) (horn_check [] (.inl rfl)) horn_t1 (by omega) (by omega) (horn_row (by decide) ⟨rfl, rfl, rfl, trivial⟩ rfl) rfl
theorem horn_g23 : gapsM allT (hornC []) 2 3 = 48 :=
  gap_eq (l := [⟨2, 1, -2⟩, ⟨1, 0, 0⟩, ⟨0, 3, 50⟩]) (horn_check [] (.inl rfl)) horn_t2 (by omega) (by omega) (horn_row (by decide) ⟨rfl, rfl, rfl, trivial⟩ rfl) rfl
theorem horn_fine : Fine (hornC []).all := by rw [← belL_all]; exact horn_t1.fine
theorem horn_gap : gapOf (hornC []) 0 2 = (36, 0) := by
  have := gap_is (a := 0) (b := 2) (horn_check [] (.inl rfl)) horn_fine (by decide) (by decide)
  rw [horn_g02] at this
  exact this
theorem horn_before : beforeOf (hornC []) 2 3 = (1, 0) := by
  have := before_is (a := 2) (b := 3) (horn_check [] (.inl rfl)) horn_fine (by decide) (by decide)
  unfold verdictM at this
  rw [horn_g32] at this
  exact this
theorem horn_ask : askOf (hornC []) 2 3 = ((4, 48), 0) := by
  have h1 : askedC (hornC []) [2, 3] = 0 := asked_two (a := 2) (b := 3) (horn_check [] (.inl rfl)) horn_fine (by decide) (by decide)
  unfold askOf
  rw [if_pos h1]
  show (if gapsM allT (hornC []) 2 3 = far ∨ gapsM allT (hornC []) 3 2 = far then _ else ((-gapsM allT (hornC []) 3 2, gapsM allT (hornC []) 2 3), 0)) = _
  rw [horn_g32, horn_g23]
  rfl
theorem horn_shows : showsOf (hornC []) 3 2 [5, 0, 2] = (-4, 0) := by
  unfold showsOf
  rw [if_neg (by rw [horn_check [] (.inl rfl)]; decide)]
  decide
theorem horn_ring : ringC (hornC []) = 6 := by
  unfold ringC
  rw [horn_check [] (.inl rfl), clash_of (horn_check [] (.inl rfl)) (by rw [belL_all]; exact horn_fine)]
  rfl
theorem lie_ring {tf : Int → Bool} (h : tf 0 = true) : clashM (gapsM tf (hornC lieL)) = true := by
  cases hc : clashM (gapsM tf (hornC lieL)) with
  | true => rfl
  | false =>
    have hf := fine_of (horn_check lieL (.inr rfl)) hc
    have hb : belL tf (hornC lieL) = (hornC lieL).bs ++ [⟨1, 0, -50⟩] := by
      unfold belL belNum hornC lieL
      simp [numFrom, clNum, h]
    have := hf 0 [⟨0, 1, 30⟩, ⟨1, 0, -50⟩] (by omega) ⟨by rw [hb]; decide, ⟨rfl, rfl, trivial⟩, rfl⟩
    exact absurd this (by decide)
theorem lie_told : toldC (hornC lieL) = 7 := by
  unfold toldC
  rw [if_pos (horn_check lieL (.inr rfl)), lie_ring rfl]
  rfl
theorem lie_p0 : liarsP (hornC lieL) [] = false := by
  unfold liarsP
  rw [lie_ring rfl]; rfl
theorem lie_p1 : liarsP (hornC lieL) [0] = true := by
  unfold liarsP
  rw [clash_of (horn_check lieL (.inr rfl))]; rfl
  have hb : belL (fun n => !memI n [0]) (hornC lieL) = (hornC lieL).bs := by
    unfold belL belNum hornC lieL
    simp [numFrom, clNum, memI]
  rw [hb]
  exact TruthOf.fine (t := tru 0 30 36 40) (show ∀ x ∈ (hornC lieL).bs, tru 0 30 36 40 x.t.toNat ≤ tru 0 30 36 40 x.f.toNat + x.m by decide)
theorem lie_few : fewL (liarsP (hornC lieL)) (hornC lieL).wi.toNat = some [0] := by
  show fewL (liarsP (hornC lieL)) 2 = some [0]
  simp [fewL, tryL, moreL, lie_p0, lie_p1]
theorem lie_liars : liarsC (hornC lieL) = 0 := by
  unfold liarsC
  rw [lie_few, horn_check lieL (.inr rfl)]
  rfl
end Go.Proofs.Ytgnjhaomlbkgcaa

namespace Go.Proofs.Ytgnjhaomlbkgcaa
open Go Go.RowKit Go.Shelf
set_option linter.unusedVariables false
set_option linter.unusedSimpArgs false


set_option maxRecDepth 100000 in
set_option maxHeartbeats 1000000 in
theorem horn_any (A : Option Addr) (k : Nat) (l : List Cl) (w : World) (hA : Claims w A l) :
    Calls Try.prog 83 #[.slice A l.length k] w fun e w' => ∃ v, e = .returned v ∧ CsR w' v (hornC l) ∧ Ext w w' := by
  go_enter Try.func83, Try.ntmps83
  go_wp2
  have hB : (((w.alloc (.cells #[.int .i64 4, .slice (some ⟨w.heap.size + 1, 0, none⟩) 6 6, .int .i64 2, .slice A l.length k] 26)).alloc (.cells (bcells (hornC l).bs).toArray 35))).heap[w.heap.size + 1]? = some (.cells (bcells (hornC l).bs).toArray 35 (0, 0)) := by
    have := heap_alloc_new (w.alloc (.cells #[.int .i64 4, .slice (some ⟨w.heap.size + 1, 0, none⟩) 6 6, .int .i64 2, .slice A l.length k] 26)) (.cells (bcells (hornC l).bs).toArray 35)
    simpa using this
  have hx := Ext.alloc (Ext.alloc (Ext.refl w) (.cells #[.int .i64 4, .slice (some ⟨w.heap.size + 1, 0, none⟩) 6 6, .int .i64 2, .slice A l.length k] 26)) (.cells (bcells (hornC l).bs).toArray 35)
  refine bodyPost_ret (v := .agg #[.int .i64 4, .slice (some ⟨w.heap.size + 1, 0, none⟩) 6 6, .int .i64 2, .slice A l.length k]) ?_ rfl ⟨_, rfl, ⟨some ⟨w.heap.size + 1, 0, none⟩, 6, A, k, rfl, rd_block hB, hA.ext hx⟩, hx⟩
  simp [results, Try.results83, go_sem]

theorem own_one_claim (w : World) (B C : Nat) (hB : w.heap[B]? = some (.cells #[.int .i64 1, .int .i64 0, .int .i64 (-50)] 35 (0, 0))) (hC : w.heap[C]? = some (.cells #[.int .i64 0, .slice (some ⟨B, 0, none⟩) 1 1] 37 (0, 0))) : Claims w (some ⟨C, 0, none⟩) lieL := by
  refine ⟨_, rd_block (xs := [.int .i64 0, .slice (some ⟨B, 0, none⟩) 1 1]) hC, rfl, ⟨some ⟨B, 0, none⟩, 1, rfl, ?_⟩, trivial⟩
  exact rd_block (xs := bcells [⟨1, 0, -50⟩]) hB
theorem horn_sized (l : List Cl) (h : l = [] ∨ l = lieL) : (hornC l).sized := by
  rcases h with rfl | rfl <;> exact ⟨by decide, by decide, by decide⟩

set_option maxRecDepth 100000 in
set_option maxHeartbeats 4000000 in
theorem awake_any (w : World) : Calls Try.prog 22 #[] w fun e w' => e = .returned (.bool true) ∧ Ext w w' := by
  have z0 := horn_sized [] (.inl rfl)
  have z1 := horn_sized lieL (.inr rfl)
  go_enter Try.func22, Try.ntmps22
  go_wp2_with fail
  refine (horn_any none 0 [] w (Claims.nil w none)).mono ?_
  rintro e w1 ⟨v1, rfl, h1, x1⟩
  go_wp2_with fail
  refine (gap_any v1 (hornC []) 0 2 w1 h1 z0).mono ?_
  rw [horn_gap]
  rintro e w2 ⟨rfl, x2⟩
  have y2 := x1.trans x2
  clear x1 x2 h1
  go_wp2_with fail
  refine (horn_any none 0 [] w2 (Claims.nil w2 none)).mono ?_
  rintro e w3 ⟨v3, rfl, h3, x3⟩
  go_wp2_with fail
  refine (before_any v3 (hornC []) 2 3 w3 h3 z0).mono ?_
  rw [horn_before]
  rintro e w4 ⟨rfl, x4⟩
  have y4 := y2.trans (x3.trans x4)
  clear x3 x4 h3 y2
  go_wp2_with fail
  refine (horn_any none 0 [] w4 (Claims.nil w4 none)).mono ?_
  rintro e w5 ⟨v5, rfl, h5, x5⟩
  go_wp2_with fail
  refine (shows_any v5 (hornC []) 3 2 (some ⟨w5.heap.size, 0, none⟩) 3 [5, 0, 2] _ (h5.ext (Ext.alloc (Ext.refl w5) _)) z0 ?i5 (by decide)).mono ?_
  case i5 => exact rd_block (xs := [.int .i64 5, .int .i64 0, .int .i64 2]) (heap_alloc_new w5 _)
  rw [horn_shows]
  rintro e w6 ⟨rfl, x6⟩
  have y6 := y4.trans (x5.trans (Ext.alloc_cell x6))
  clear x5 x6 h5 y4
  go_wp2_with fail
  refine (horn_any (some ⟨w6.heap.size + 1, 0, none⟩) 1 lieL _ ?i6).mono ?_
  case i6 =>
    refine own_one_claim _ w6.heap.size (w6.heap.size + 1) ?_ ?_
    · exact (Below.block (Ext.alloc (Ext.refl _) _) _ (by simp)).trans (heap_alloc_new w6 _)
    · have := heap_alloc_new (w6.alloc (.cells #[.int .i64 1, .int .i64 0, .int .i64 (-50)] 35)) (.cells #[.int .i64 0, .slice (some ⟨w6.heap.size, 0, none⟩) 1 1] 37)
      simpa using this
  rintro e w7 ⟨v7, rfl, h7, x7⟩
  obtain ⟨A1, c1, A2, c2, rfl, p1, p2⟩ := h7
  have y7 := y6.trans (Ext.alloc_cell (Ext.alloc_cell x7))
  clear x7 y6
  go_wp2_with fail
  have x8 := Ext.alloc (Ext.refl w7) (.cells #[.int .i64 (hornC lieL).ev, .slice A1 (hornC lieL).bs.length c1, .int .i64 (hornC lieL).wi, .slice A2 (hornC lieL).cl.length c2] 26)
  have C8 : CsR (w7.alloc (.cells #[.int .i64 (hornC lieL).ev, .slice A1 (hornC lieL).bs.length c1, .int .i64 (hornC lieL).wi, .slice A2 (hornC lieL).cl.length c2] 26)) (.agg #[.int .i64 (hornC lieL).ev, .slice A1 (hornC lieL).bs.length c1, .int .i64 (hornC lieL).wi, .slice A2 (hornC lieL).cl.length c2]) (hornC lieL) := ⟨A1, c1, A2, c2, rfl, p1.ext x8, p2.ext x8⟩
  refine (liars_any _ (hornC lieL) _ C8 z1).mono ?_
  rw [lie_liars]
  rintro e w9 ⟨r9, rfl, x9, -, q9⟩
  obtain ⟨l9, A9, c9, hl9, rfl, i9⟩ := q9 rfl
  rw [lie_few] at hl9
  obtain rfl : l9 = [0] := (Option.some.inj hl9).symm
  have C9 := C8.ext x9
  have y9 := y7.trans (x8.trans x9)
  have k0 := x9.cell (p := ⟨w7.heap.size, 0, none⟩) (u := .int .i64 (hornC lieL).ev) (by simp [go_sem])
  have k1 := x9.cell (p := ⟨w7.heap.size, 1, none⟩) (u := .slice A1 (hornC lieL).bs.length c1) (by simp [go_sem])
  have k2 := x9.cell (p := ⟨w7.heap.size, 2, none⟩) (u := .int .i64 (hornC lieL).wi) (by simp [go_sem])
  have k3 := x9.cell (p := ⟨w7.heap.size, 3, none⟩) (u := .slice A2 (hornC lieL).cl.length c2) (by simp [go_sem])
  clear x8 x9 hl9 q9 C8 y7 p1 p2
  go_wp2_with fail
  refine (horn_any none 0 [] w9 (Claims.nil w9 none)).mono ?_
  rintro e w10 ⟨v10, rfl, h10, x10⟩
  go_wp2_with fail
  refine (ring_any v10 (hornC []) w10 h10 z0).mono ?_
  rw [horn_ring]
  rintro e w11 ⟨r11, rfl, x11, q11, -⟩
  obtain rfl := q11 (by decide)
  have x911 := x10.trans x11
  have y11 := y9.trans x911
  have C11 := C9.ext x911
  have i11 := i9.ext x911
  have k0 := x911.cell k0
  have k1 := x911.cell k1
  have k2 := x911.cell k2
  have k3 := x911.cell k3
  clear x10 x11 h10 q11 y9 C9 i9 x911
  go_wp2_with fail
  refine (truth_any _ (hornC lieL) w11 C11 z1).mono ?_
  rw [lie_told]
  rintro e w12 ⟨r12, rfl, x12, -, q12⟩
  obtain rfl := q12 (by decide)
  have y12 := y11.trans x12
  have i12 := i11.ext x12
  clear q12 y11 C11 i11 x12
  go_wp2_with fail
  refine (horn_any none 0 [] w12 (Claims.nil w12 none)).mono ?_
  rintro e w13 ⟨v13, rfl, h13, x13⟩
  go_wp2_with fail
  refine (ask_any v13 (hornC []) 2 3 w13 h13 z0).mono ?_
  rw [horn_ask]
  rintro e w14 ⟨rfl, x14⟩
  have y14 := y12.trans (x13.trans x14)
  have i14 := i12.ext (x13.trans x14)
  clear x13 x14 h13 y12 i12
  go_wp2_with fail
  have x15 := Ext.alloc (Ext.alloc (Ext.refl w14) (.cells #[.int .i64 4, .int .i64 48] 59)) (.cells #[.int .i64 0] 3)
  refine (eq_int A9 (some ⟨w14.heap.size + 1, 0, none⟩) c9 1 [0] [0] _ (i14.ext x15) ?i15 (by decide) (by decide)).mono ?_
  case i15 =>
    refine rd_block (xs := [.int .i64 0]) (T := 3) (fr := (0, 0)) ?_
    have := heap_alloc_new (w14.alloc (.cells #[.int .i64 4, .int .i64 48] 59)) (.cells #[.int .i64 0] 3)
    simpa using this
  rintro e w16 ⟨rfl, x16⟩
  have m0 := x16.cell (p := ⟨w14.heap.size, 0, none⟩) (u := .int .i64 4) (by simp [go_sem])
  have m1 := x16.cell (p := ⟨w14.heap.size, 1, none⟩) (u := .int .i64 48) (by simp [go_sem])
  have y16 := y14.trans (x15.trans x16)
  clear x15 x16 y14
  go_wp2
  go_ret
  exact ⟨rfl, y16⟩
end Go.Proofs.Ytgnjhaomlbkgcaa

namespace Go.Proofs.Ytgnjhaomlbkgcaa
open Go Go.RowKit
set_option linter.unusedVariables false
set_option linter.unusedSimpArgs false

theorem great_sized {c : Cs} (h : greatC c = false) : c.bs.length * 24 ≤ 140737488355328 ∧ c.cl.length * 32 ≤ 140737488355328 ∧ ∀ x ∈ c.cl, x.bs.length * 24 ≤ 140737488355328 := by
  unfold greatC at h
  simp only [Bool.or_eq_false_iff, decide_eq_false_iff_not, List.any_eq_false] at h
  obtain ⟨⟨h1, h2⟩, h3⟩ := h
  refine ⟨by omega, by omega, fun x hx => ?_⟩
  have h4 := h1 x hx
  simp only [decide_eq_true_eq] at h4
  omega

set_option maxRecDepth 100000 in
set_option maxHeartbeats 8000000 in
theorem rowsw_any (v : Value) (c : Cs) (a b : Int) (A : Option Addr) (k : Nat) (row : List Int) (w : World) (hc : CsR w v c) (hs : c.sized) (hA0 : Ints w A row) :
    Calls Try.prog 6 #[v, .int .i64 a, .int .i64 b, .slice A row.length k] w fun e w' => e = .returned (.bool true) ∧ Ext w w' := by
  have hc' := hc
  obtain ⟨A1, c1, A2, c2, rfl, hB, hC⟩ := hc
  have HSZ := hid hs
  obtain ⟨W0, hW0⟩ : ∃ W0, w.alloc (.cells #[.int .i64 c.ev, .slice A1 c.bs.length c1, .int .i64 c.wi, .slice A2 c.cl.length c2] 26) = W0 := ⟨_, rfl⟩
  have hx0 : Ext w W0 := by rw [← hW0]; exact Ext.alloc (Ext.refl w) _
  have FX : Hid (∀ w', Ext W0 w' → w'.cell? ⟨w.heap.size, 0, none⟩ = some (.int .i64 c.ev) ∧ w'.cell? ⟨w.heap.size, 1, none⟩ = some (.slice A1 c.bs.length c1) ∧ w'.cell? ⟨w.heap.size, 2, none⟩ = some (.int .i64 c.wi) ∧ w'.cell? ⟨w.heap.size, 3, none⟩ = some (.slice A2 c.cl.length c2)) := fun w' h => ⟨h.cell (by rw [← hW0]; simp [go_sem]), h.cell (by rw [← hW0]; simp [go_sem]), h.cell (by rw [← hW0]; simp [go_sem]), h.cell (by rw [← hW0]; simp [go_sem])⟩
  obtain ⟨q0, q1, q2, q3⟩ := FX.out W0 (Ext.refl _)
  have K1 := great_any _ c W0 (hc'.ext hx0) hs
  obtain ⟨GR, hGR⟩ : ∃ GR, greatC c = GR := ⟨_, rfl⟩
  rw [hGR] at K1
  have HGR := hid hGR
  clear hs hB hC
  go_enter Try.func6, Try.ntmps6
  go_wp2_with fail
  clear hW0 q0 q1 q2 q3
  refine K1.mono ?_
  clear K1
  rintro e w1 ⟨rfl, hb1⟩
  have hx1 := hx0.trans hb1
  clear hGR
  cases GR
  case true =>
    go_wp2_with fail
    refine (awake_any w1).mono ?_
    rintro e w2 ⟨rfl, hb2⟩
    go_wp2
    go_ret
    exact ⟨rfl, hx1.trans hb2⟩
  by_cases hr60 : (60 : Int) < (row.length : Int)
  · go_wp2_with fail
    refine (awake_any w1).mono ?_
    rintro e w2 ⟨rfl, hb2⟩
    go_wp2
    go_ret
    exact ⟨rfl, hx1.trans hb2⟩
  obtain ⟨hl1, hl2, hl3⟩ := great_sized HGR.out
  have HL3 := hid hl3
  have hl : row.length * 8 ≤ 140737488355328 := by omega
  clear HGR hl3
  have HC : Hid (∀ w', Ext w1 w' → CsR w' (.agg #[.int .i64 c.ev, .slice A1 c.bs.length c1, .int .i64 c.wi, .slice A2 c.cl.length c2]) c) := fun w' h => hc'.ext (hx1.trans h)
  have HA : Hid (∀ w', Ext w1 w' → Ints w' A row) := fun w' h => hA0.ext (hx1.trans h)
  clear hc' hA0
  go_wp2
  refine wp_region_shut_tail Ext (fun w' => Ext w1 w') (fun
    | 1 => some (fun v w' => ∃ B, OwnCs w' B v c)
    | 3 => some (fun v w' => ∃ g c', v = .slice (some ⟨g, 0, none⟩) row.length c' ∧ ∃ B, w'.ownsRow B 3 1 (.slice (some ⟨g, 0, none⟩) row.length c') row.length (row.map (.int .i64)))
    | 5 => some (fun v w' => TheirsCs w' v c)
    | 6 => some (fun v w' => ∃ B, v = .pointer (some ⟨B, 0, none⟩) ∧ w1.heap.size ≤ B ∧ w'.heap[B]? = some (.cells #[.int .i64 0, .slice none 0 0, .int .i64 0, .slice none 0 0] 26 (0, 0)))
    | 7 => some (fun v w' => ∃ B, v = .pointer (some ⟨B, 0, none⟩) ∧ w1.heap.size ≤ B ∧ w'.heap[B]? = some (.cells #[.int .i64 0, .slice none 0 0, .int .i64 0, .slice none 0 0] 72 (0, 0)))
    | _ => none) 8 (by kernel_rfl) (by kernel_rfl) (fun _ _ h k => h.trans k) ?hT (Ext.drew (Ext.refl w1)) ?_
  case hT =>
    intro i R hR
    match i, hR with
    | 1, hR => cases hR; exact fun _ _ _ ⟨B, h⟩ k => ⟨B, h.ext k⟩
    | 3, hR => cases hR; exact fun _ _ _ ⟨g, c', e, B, h⟩ k => ⟨g, c', e, B, own_below h k⟩
    | 5, hR => cases hR; exact fun _ _ _ h k => h.ext k
    | 6, hR => cases hR; exact fun _ _ _ ⟨B, e, h1, h⟩ k => ⟨B, e, h1, (Below.block k B (Array.getElem?_eq_some_iff.1 h).1).trans h⟩
    | 7, hR => cases hR; exact fun _ _ _ ⟨B, e, h1, h⟩ k => ⟨B, e, h1, (Below.block k B (Array.getElem?_eq_some_iff.1 h).1).trans h⟩
  refine wM_val ?ua0 rfl rfl Ext.refl (fun w' hD => ?ha0) (fun pha0 => ?na0)
  case ha0 =>
    obtain ⟨d0, d1, d2, d3⟩ := FX.out _ (hb1.trans hD.1)
    go_simp; rfl
  simp only [Act.put, List.setIfInBounds_toArray, List.set_cons_succ, List.set_cons_zero, Nat.reduceAdd]
  refine wM_op _ rfl rfl (opens_call ?fa1 ?ga1 (fun w' hD => ?ha1) (fun w' hD => ?ca1)) (fun v1 hv1 => ?na1)
  case ha1 => go_simp; constructor <;> rfl
  case ca1 =>
    refine (own_any _ c w' (HC.out w' hD.1) hl1 hl2 HL3.out).mono ?_
    rintro e w2 ⟨v, rfl, ho, hb⟩
    exact ⟨_, rfl, hb, _, ho⟩
  obtain ⟨_, -, -, B1, g1, k1, g2, k2, gs, xs1, rfl, -⟩ := hv1
  simp only [Act.put, List.setIfInBounds_toArray, List.set_cons_succ, List.set_cons_zero, Nat.reduceAdd]
  refine wM_val ?ua2 rfl rfl Ext.refl (fun w' hD => ?ha2) (fun pha2 => ?na2)
  case ha2 =>
    obtain ⟨d0, d1, d2, d3⟩ := FX.out _ (hb1.trans hD.1)
    go_simp; rfl
  simp only [Act.put, List.setIfInBounds_toArray, List.set_cons_succ, List.set_cons_zero, Nat.reduceAdd]
  refine wM_op _ rfl rfl (opens_call ?fa3 ?ga3 (fun w' hD => ?ha3) (fun w' hD => ?ca3)) (fun v3 hv3 => ?na3)
  case ha3 => go_simp; constructor <;> rfl
  case ca3 =>
    refine (dup_int A k row w' (HA.out w' hD.1) hl).mono ?_
    rintro e w2 ⟨g, c', rfl, ho, hb⟩
    exact ⟨_, rfl, hb, g, c', rfl, _, ho⟩
  obtain ⟨_, -, -, gd, kd, rfl, -⟩ := hv3
  simp only [Act.put, List.setIfInBounds_toArray, List.set_cons_succ, List.set_cons_zero, Nat.reduceAdd]
  refine wM_val ?ua4 rfl rfl Ext.refl (fun w' hD => ?ha4) (fun pha4 => ?na4)
  case ha4 =>
    obtain ⟨d0, d1, d2, d3⟩ := FX.out _ (hb1.trans hD.1)
    go_simp; rfl
  simp only [Act.put, List.setIfInBounds_toArray, List.set_cons_succ, List.set_cons_zero, Nat.reduceAdd]
  refine wM_op _ rfl rfl (opens_call ?fa5 ?ga5 (fun w' hD => ?ha5) (fun w' hD => ?ca5)) (fun v5 hv5 => ?na5)
  case ha5 => go_simp; constructor <;> rfl
  case ca5 =>
    refine (theirs_any _ c w' (HC.out w' hD.1) hl1 hl2 HL3.out).mono ?_
    rintro e w2 ⟨v', rfl, ho, hb⟩
    exact ⟨_, rfl, hb, ho⟩
  obtain ⟨_, -, -, A5, k5, A6, k6, xs5, B5, rfl, -⟩ := hv5
  simp only [Act.put, List.setIfInBounds_toArray, List.set_cons_succ, List.set_cons_zero, Nat.reduceAdd]
  refine wM_op _ rfl rfl (opens_val (fun w' hD => ?hm6)) (fun va6 hva6 => ?nm6)
  case hm6 =>
    refine ⟨.pointer (some ⟨w'.heap.size, 0, none⟩), w'.alloc (.cells #[.int .i64 0, .slice none 0 0, .int .i64 0, .slice none 0 0] 26), ?_, Ext.alloc (Ext.refl _) _, w'.heap.size, rfl, hD.1.size, World.alloc_heap_new _ _⟩
    go_simp
  obtain ⟨_, -, -, Ba, rfl, -⟩ := hva6
  simp only [Act.put, List.setIfInBounds_toArray, List.set_cons_succ, List.set_cons_zero, Nat.reduceAdd]
  refine wM_op _ rfl rfl (opens_val (fun w' hD => ?hm7)) (fun va7 hva7 => ?nm7)
  case hm7 =>
    refine ⟨.pointer (some ⟨w'.heap.size, 0, none⟩), w'.alloc (.cells #[.int .i64 0, .slice none 0 0, .int .i64 0, .slice none 0 0] 72), ?_, Ext.alloc (Ext.refl _) _, w'.heap.size, rfl, hD.1.size, World.alloc_heap_new _ _⟩
    go_simp
  obtain ⟨_, -, -, Bb, rfl, -⟩ := hva7
  simp only [Act.put, List.setIfInBounds_toArray, List.set_cons_succ, List.set_cons_zero, Nat.reduceAdd]
  refine wM_nil ?_
  intro w9 hw9 hF9
  obtain ⟨-, B1', ho1⟩ := hF9 1
  obtain ⟨-, gd', kd', e3, Bd, ho3⟩ := hF9 3
  cases e3
  obtain ⟨-, ho5⟩ := hF9 5
  obtain ⟨-, Ba', e6, hBa, GA⟩ := hF9 6
  cases e6
  obtain ⟨-, Bb', e7, hBb, GB⟩ := hF9 7
  cases e7
  clear hF9
  have hab : Ba ≠ Bb := fun e => by
    rw [e, GB] at GA
    injection GA with e1
    injection e1 with _ e2 _
    exact absurd e2 (by decide)
  have hba : Bb ≠ Ba := fun e => hab e.symm
  have hCB : CaseB w9 (fun n => n = Ba ∨ n = Bb) := fun n hn => by
    rcases hn with e | e
    · exact ⟨_, _, by rw [e]; exact GA, .inl rfl⟩
    · exact ⟨_, _, by rw [e]; exact GB, .inr rfl⟩
  obtain ⟨Wn, hWn⟩ : ∃ Wn, ((((((((w9.setCell ⟨Ba, 0, none⟩ (.int .i64 c.ev)).setCell ⟨Ba, 1, none⟩ (.slice (some ⟨g1, 0, none⟩) c.bs.length k1)).setCell ⟨Ba, 2, none⟩ (.int .i64 c.wi)).setCell ⟨Ba, 3, none⟩ (.slice (some ⟨g2, 0, none⟩) c.cl.length k2)).setCell ⟨Bb, 0, none⟩ (.int .i64 c.ev)).setCell ⟨Bb, 1, none⟩ (.slice A5 c.bs.length k5)).setCell ⟨Bb, 2, none⟩ (.int .i64 c.wi)).setCell ⟨Bb, 3, none⟩ (.slice A6 c.cl.length k6)) = Wn := ⟨_, rfl⟩
  have hbn : BelS (fun n => n = Ba ∨ n = Bb) w9 Wn := by
    rw [← hWn]
    exact (((((((((BelS.refl _ w9).setCell (S := fun n => n = Ba ∨ n = Bb) ⟨Ba, 0, none⟩ _ (.inl rfl)).setCell (S := fun n => n = Ba ∨ n = Bb) ⟨Ba, 1, none⟩ _ (.inl rfl)).setCell (S := fun n => n = Ba ∨ n = Bb) ⟨Ba, 2, none⟩ _ (.inl rfl)).setCell (S := fun n => n = Ba ∨ n = Bb) ⟨Ba, 3, none⟩ _ (.inl rfl)).setCell (S := fun n => n = Ba ∨ n = Bb) ⟨Bb, 0, none⟩ _ (.inr rfl)).setCell (S := fun n => n = Ba ∨ n = Bb) ⟨Bb, 1, none⟩ _ (.inr rfl)).setCell (S := fun n => n = Ba ∨ n = Bb) ⟨Bb, 2, none⟩ _ (.inr rfl)).setCell (S := fun n => n = Ba ∨ n = Bb) ⟨Bb, 3, none⟩ _ (.inr rfl))
  have hx0n : Ext W0 Wn := by
    have h1 : W0.heap.size ≤ Ba := Nat.le_trans hb1.size hBa
    have h2 : W0.heap.size ≤ Bb := Nat.le_trans hb1.size hBb
    rw [← hWn]
    exact (((((((((hb1.trans hw9).setCell (by simpa using h1) _).setCell (by simpa using h1) _).setCell (by simpa using h1) _).setCell (by simpa using h1) _).setCell (by simpa using h2) _).setCell (by simpa using h2) _).setCell (by simpa using h2) _).setCell (by simpa using h2) _)
  have hx1n : Ext w1 Wn := by
    rw [← hWn]
    exact ((((((((hw9.setCell (by simpa using hBa) _).setCell (by simpa using hBa) _).setCell (by simpa using hBa) _).setCell (by simpa using hBa) _).setCell (by simpa using hBb) _).setCell (by simpa using hBb) _).setCell (by simpa using hBb) _).setCell (by simpa using hBb) _)
  have p0 := block_cell (i := 0) GA
  have p1 := block_cell (i := 1) GA
  have p2 := block_cell (i := 2) GA
  have p3 := block_cell (i := 3) GA
  have f0 := block_free (i := 0) GA
  have f1 := block_free (i := 1) GA
  have f2 := block_free (i := 2) GA
  have f3 := block_free (i := 3) GA
  have u0 := block_cell (i := 0) GB
  have u1 := block_cell (i := 1) GB
  have u2 := block_cell (i := 2) GB
  have u3 := block_cell (i := 3) GB
  have v0 := block_free (i := 0) GB
  have v1 := block_free (i := 1) GB
  have v2 := block_free (i := 2) GB
  have v3 := block_free (i := 3) GB
  simp only [List.getElem?_toArray, List.getElem?_cons_zero, List.getElem?_cons_succ] at p0 p1 p2 p3 u0 u1 u2 u3
  have FN : Hid (((Wn.cell? ⟨Ba, 0, none⟩ = some (.int .i64 c.ev) ∧ Wn.cell? ⟨Ba, 1, none⟩ = some (.slice (some ⟨g1, 0, none⟩) c.bs.length k1) ∧ Wn.cell? ⟨Ba, 2, none⟩ = some (.int .i64 c.wi) ∧ Wn.cell? ⟨Ba, 3, none⟩ = some (.slice (some ⟨g2, 0, none⟩) c.cl.length k2)) ∧ Wn.cell? ⟨Bb, 0, none⟩ = some (.int .i64 c.ev) ∧ Wn.cell? ⟨Bb, 1, none⟩ = some (.slice A5 c.bs.length k5) ∧ Wn.cell? ⟨Bb, 2, none⟩ = some (.int .i64 c.wi) ∧ Wn.cell? ⟨Bb, 3, none⟩ = some (.slice A6 c.cl.length k6))) := by
    unfold Hid
    rw [← hWn]
    have hab' := hab
    have hba' := hba
    simp [go_sem, p0, p1, p2, p3, u0, u1, u2, u3, hab', hba']
  have HOC : Hid (CsR Wn (.agg #[.int .i64 c.ev, .slice (some ⟨g1, 0, none⟩) c.bs.length k1, .int .i64 c.wi, .slice (some ⟨g2, 0, none⟩) c.cl.length k2]) c) := ho1.stores hCB hbn
  have HXC : Hid (CsR Wn (.agg #[.int .i64 c.ev, .slice A5 c.bs.length k5, .int .i64 c.wi, .slice A6 c.cl.length k6]) c) := ho5.stores hCB hbn
  have HDI : Hid (Ints Wn (some ⟨gd, 0, none⟩) row) := Rd.of_own (hCB.own hbn ho3 (by decide) (by decide))
  clear ho1 ho3 ho5 hCB hbn GA GB
  simp only [List.drop_succ_cons, List.drop_zero]
  obtain ⟨⟨a0, a1, a2, a3⟩, x0, x1, x2, x3⟩ := FN.out
  have FC : Hid (∀ w', Ext Wn w' → (w'.cell? ⟨Ba, 0, none⟩ = some (.int .i64 c.ev) ∧ w'.cell? ⟨Ba, 1, none⟩ = some (.slice (some ⟨g1, 0, none⟩) c.bs.length k1) ∧ w'.cell? ⟨Ba, 2, none⟩ = some (.int .i64 c.wi) ∧ w'.cell? ⟨Ba, 3, none⟩ = some (.slice (some ⟨g2, 0, none⟩) c.cl.length k2)) ∧ (w'.cell? ⟨Bb, 0, none⟩ = some (.int .i64 c.ev) ∧ w'.cell? ⟨Bb, 1, none⟩ = some (.slice A5 c.bs.length k5) ∧ w'.cell? ⟨Bb, 2, none⟩ = some (.int .i64 c.wi) ∧ w'.cell? ⟨Bb, 3, none⟩ = some (.slice A6 c.cl.length k6)) ∧ w'.cell? ⟨w.heap.size, 0, none⟩ = some (.int .i64 c.ev) ∧ w'.cell? ⟨w.heap.size, 1, none⟩ = some (.slice A1 c.bs.length c1) ∧ w'.cell? ⟨w.heap.size, 2, none⟩ = some (.int .i64 c.wi) ∧ w'.cell? ⟨w.heap.size, 3, none⟩ = some (.slice A2 c.cl.length c2)) := fun w' h => ⟨⟨h.cell a0, h.cell a1, h.cell a2, h.cell a3⟩, ⟨h.cell x0, h.cell x1, h.cell x2, h.cell x3⟩, FX.out w' (hx0n.trans h)⟩
  obtain ⟨-, -, q0, q1, q2, q3⟩ := FC.out Wn (Ext.refl _)
  have HO : Hid (∀ w', Ext Wn w' → CsR w' (.agg #[.int .i64 c.ev, .slice (some ⟨g1, 0, none⟩) c.bs.length k1, .int .i64 c.wi, .slice (some ⟨g2, 0, none⟩) c.cl.length k2]) c) := fun w' h => HOC.out.ext h
  have HXX : Hid (∀ w', Ext Wn w' → CsR w' (.agg #[.int .i64 c.ev, .slice A5 c.bs.length k5, .int .i64 c.wi, .slice A6 c.cl.length k6]) c) := fun w' h => HXC.out.ext h
  have HV : Hid (∀ w', Ext Wn w' → CsR w' (.agg #[.int .i64 c.ev, .slice A1 c.bs.length c1, .int .i64 c.wi, .slice A2 c.cl.length c2]) c) := fun w' h => HC.out w' (hx1n.trans h)
  have HD : Hid (∀ w', Ext Wn w' → Ints w' (some ⟨gd, 0, none⟩) row) := fun w' h => HDI.out.ext h
  have HA' : Hid (∀ w', Ext Wn w' → Ints w' A row) := fun w' h => HA.out w' (hx1n.trans h)
  have HXN : Hid (Ext w Wn) := hx1.trans hx1n
  clear FX HC HA HOC HXC HDI FN hx0n hx1n hx1 hx0 hb1 hBa hBb hw9
  obtain ⟨S1, S2, hS⟩ : ∃ S1 S2, showsOf c a b row = (S1, S2) := ⟨_, _, rfl⟩
  have KA := shows_any _ c a b (some ⟨gd, 0, none⟩) kd row Wn (HO.out _ (Ext.refl _)) HSZ.out (HD.out _ (Ext.refl _)) (by omega)
  rw [hS] at KA
  have HKA := hid KA
  have KB_ : Hid (∀ w', Ext Wn w' → Calls Try.prog 38 #[.agg #[.int .i64 c.ev, .slice A5 c.bs.length k5, .int .i64 c.wi, .slice A6 c.cl.length k6], .int .i64 a, .int .i64 b, .slice A row.length k] w' fun e w2 => e = .returned (.tuple #[.int .i64 S1, .int .i64 S2]) ∧ Ext w' w2) := fun w' h => by
    have K := refshows_any _ c a b A k row w' (HXX.out w' h) HSZ.out (HA'.out w' h) (by omega)
    rw [hS] at K
    exact K
  have KC_ : Hid (∀ w', Ext Wn w' → Calls Try.prog 32 #[.slice (some ⟨gd, 0, none⟩) row.length kd, .slice A row.length k] w' fun e w2 => e = .returned (.bool true) ∧ Ext w' w2) := fun w' h => by
    have K := eq_int (some ⟨gd, 0, none⟩) A kd k row row w' (HD.out w' h) (HA'.out w' h) (by omega) (by omega)
    rw [beq_self_eq_true] at K
    exact K
  clear hS KA HD HA'
  go_wp2_with fail
  clear hWn hab hba p0 p1 p2 p3 u0 u1 u2 u3 f0 f1 f2 f3 v0 v1 v2 v3 hl hl1 hl2 HL3
  clear a0 a1 a2 a3 x0 x1 x2 x3 q0 q1 q2 q3
  refine HKA.out.mono ?_
  clear HKA
  rintro e w10 ⟨rfl, h10⟩
  obtain ⟨⟨a0, a1, a2, a3⟩, ⟨x0, x1, x2, x3⟩, q0, q1, q2, q3⟩ := FC.out w10 h10
  go_wp2_with fail
  clear a0 a1 a2 a3 x0 x1 x2 x3 q0 q1 q2 q3
  refine (KB_.out w10 h10).mono ?_
  clear KB_
  rintro e w11 ⟨rfl, h⟩
  have h11 := h10.trans h
  clear h h10
  obtain ⟨⟨a0, a1, a2, a3⟩, ⟨x0, x1, x2, x3⟩, q0, q1, q2, q3⟩ := FC.out w11 h11
  have n1 : (S1 != S1) = false := by simp
  have n2 : (S2 != S2) = false := by simp
  go_wp2_with fail
  clear a0 a1 a2 a3 x0 x1 x2 x3 q0 q1 q2 q3
  refine (KC_.out w11 h11).mono ?_
  clear KC_
  rintro e w12 ⟨rfl, h⟩
  have h12 := h11.trans h
  clear h h11 n1 n2
  obtain ⟨⟨a0, a1, a2, a3⟩, ⟨x0, x1, x2, x3⟩, q0, q1, q2, q3⟩ := FC.out w12 h12
  by_cases h0 : checkC c = 0
  case neg =>
    have H0 := hid h0
    obtain ⟨W, hWe⟩ : ∃ W, checkC c = W := ⟨_, rfl⟩
    have HE : Hid (askedC c [a, b] = W) := by unfold Hid; rw [asked_check h0, hWe]
    have hR : ringC c = W := by unfold ringC; rw [if_pos h0, hWe]
    have hW0 : W ≠ 0 := by rw [← hWe]; exact h0
    have b1 : (W == 0) = false := by simpa using hW0
    have b2 : (W != W) = false := by simp
    have b3 : (W != 0) = true := by simpa using hW0
    have K := ring_any _ c w12 (HO.out w12 h12) HSZ.out
    rw [hR] at K
    have HK := hid K
    have HWE := hid hWe
    clear K hR h0 hWe
    go_wp2_with fail
    clear a0 a1 a2 a3 x0 x1 x2 x3 q0 q1 q2 q3
    refine (HK.out).mono ?_
    rintro e w13 ⟨r9, rfl, h, hr9, -⟩
    have h13 := h12.trans h
    clear h
    obtain rfl := hr9 hW0
    clear HK hr9
    obtain ⟨⟨a0, a1, a2, a3⟩, ⟨x0, x1, x2, x3⟩, q0, q1, q2, q3⟩ := FC.out w13 h13
    have K := refcheck_any _ c w13 (HXX.out w13 h13) HSZ.out
    rw [HWE.out] at K
    have HK := hid K
    clear K
    go_wp2_with fail
    clear a0 a1 a2 a3 x0 x1 x2 x3 q0 q1 q2 q3
    refine (HK.out).mono ?_
    rintro e w14 ⟨rfl, h⟩
    have h14 := h13.trans h
    clear h
    clear HK
    obtain ⟨⟨a0, a1, a2, a3⟩, ⟨x0, x1, x2, x3⟩, q0, q1, q2, q3⟩ := FC.out w14 h14
    obtain ⟨e1, e2, e3, e4⟩ := rows_err HE.out hW0
    have m1 : (W == W) = true := by simp
    have m2 : (W != 0) = true := by simpa using hW0
    have E1 := hid e1
    have E2 := hid e2
    have E3 := hid e3
    have E4 := hid e4
    clear e1 e2 e3 e4
    have K := refasked_any _ c a b w14 (HXX.out w14 h14) HSZ.out
    rw [HE.out] at K
    have HK := hid K
    clear K
    go_wp2_with fail
    clear a0 a1 a2 a3 x0 x1 x2 x3 q0 q1 q2 q3
    refine (HK.out).mono ?_
    rintro e w15 ⟨rfl, h⟩
    have h15 := h14.trans h
    clear h
    clear HK
    obtain ⟨⟨a0, a1, a2, a3⟩, ⟨x0, x1, x2, x3⟩, q0, q1, q2, q3⟩ := FC.out w15 h15
    have K := gap_any _ c a b w15 (HO.out w15 h15) HSZ.out
    rw [E1.out] at K
    have HK := hid K
    clear K
    go_wp2_with fail
    clear a0 a1 a2 a3 x0 x1 x2 x3 q0 q1 q2 q3
    refine (HK.out).mono ?_
    rintro e w16 ⟨rfl, h⟩
    have h16 := h15.trans h
    clear h
    clear HK
    obtain ⟨⟨a0, a1, a2, a3⟩, ⟨x0, x1, x2, x3⟩, q0, q1, q2, q3⟩ := FC.out w16 h16
    have K := rowa_any _ c a b w16 (HO.out w16 h16) HSZ.out
    unfold RowPost at K
    rw [E2.out] at K
    have HK := hid K
    clear K
    go_wp2_with fail
    clear a0 a1 a2 a3 x0 x1 x2 x3 q0 q1 q2 q3
    refine (HK.out).mono ?_
    rintro e w17 ⟨r9, rfl, h, hr9, -⟩
    have h17 := h16.trans h
    clear h
    obtain rfl := hr9 hW0
    clear HK hr9
    obtain ⟨⟨a0, a1, a2, a3⟩, ⟨x0, x1, x2, x3⟩, q0, q1, q2, q3⟩ := FC.out w17 h17
    have K := before_any _ c a b w17 (HO.out w17 h17) HSZ.out
    rw [E3.out] at K
    have HK := hid K
    clear K
    go_wp2_with fail
    clear a0 a1 a2 a3 x0 x1 x2 x3 q0 q1 q2 q3
    refine (HK.out).mono ?_
    rintro e w18 ⟨rfl, h⟩
    have h18 := h17.trans h
    clear h
    clear HK
    obtain ⟨⟨a0, a1, a2, a3⟩, ⟨x0, x1, x2, x3⟩, q0, q1, q2, q3⟩ := FC.out w18 h18
    have K := ask_any _ c a b w18 (HO.out w18 h18) HSZ.out
    rw [E4.out] at K
    have HK := hid K
    clear K
    go_wp2_with fail
    clear a0 a1 a2 a3 x0 x1 x2 x3 q0 q1 q2 q3
    refine HK.out.mono ?_
    clear HK
    rintro e w19 ⟨rfl, h⟩
    have h19 := h18.trans h
    clear h
    obtain ⟨Wz, hWz⟩ : ∃ Wz, w19.alloc (.cells #[.int .i64 0, .int .i64 0] 59) = Wz := ⟨_, rfl⟩
    obtain ⟨Bs, hBs⟩ : ∃ Bs, w19.heap.size = Bs := ⟨_, rfl⟩
    obtain ⟨w20, hWs⟩ : ∃ Ws, (Wz.setCell ⟨Bs, 0, none⟩ (.int .i64 (0))).setCell ⟨Bs, 1, none⟩ (.int .i64 (0)) = Ws := ⟨_, rfl⟩
    have z0 : Wz.cell? ⟨Bs, 0, none⟩ = some (.int .i64 0) := by rw [← hWz, ← hBs]; simp [go_sem]
    have z1 : Wz.cell? ⟨Bs, 1, none⟩ = some (.int .i64 0) := by rw [← hWz, ← hBs]; simp [go_sem]
    have y0 : Wz.frozen? ⟨Bs, 0, none⟩ = false := by rw [← hWz, ← hBs]; simp [go_sem]
    have y1 : Wz.frozen? ⟨Bs, 1, none⟩ = false := by rw [← hWz, ← hBs]; simp [go_sem]
    have h : Ext w19 w20 := by rw [← hWs, ← hWz]; exact (((Ext.refl _).alloc _).setCell (by simp [← hBs]) _).setCell (by simp [← hBs]) _
    have h20 := h19.trans h
    have FS : Hid (∀ w', Ext w20 w' → w'.cell? ⟨Bs, 0, none⟩ = some (.int .i64 (0)) ∧ w'.cell? ⟨Bs, 1, none⟩ = some (.int .i64 (0))) := fun w' h => ⟨h.cell (by rw [← hWs]; simp [go_sem, z0, z1]), h.cell (by rw [← hWs]; simp [go_sem, z0, z1])⟩
    clear h
    obtain ⟨s0, s1⟩ := FS.out w20 (Ext.refl _)
    obtain ⟨⟨a0, a1, a2, a3⟩, ⟨x0, x1, x2, x3⟩, q0, q1, q2, q3⟩ := FC.out w20 h20
    go_wp2_with fail
    clear a0 a1 a2 a3 x0 x1 x2 x3 q0 q1 q2 q3
    try rw [hWz]
    try rw [hBs]
    try rw [hWs]
    try clear hWs hWz hBs z0 z1 y0 y1 s0 s1
    refine (same_yes _ _ c w20 (HO.out w20 h20) (HV.out w20 h20) HSZ.out).mono ?_
    rintro e v1 ⟨rfl, h⟩
    have hh1 := h20.trans h
    clear h
    go_wp2_with fail
    refine (awake_any v1).mono ?_
    rintro e v2 ⟨rfl, h⟩
    go_wp2
    go_ret
    exact ⟨rfl, HXN.out.trans (hh1.trans h)⟩
  have H0 := hid h0
  have hwi := (manyOK_parts (checkC_ok h0).1).2.2.2
  have HWI : Hid (0 ≤ c.wi ∧ c.wi ≤ 6) := ⟨hwi.1, hwi.2.1⟩
  have hbt := belT_all c h0
  clear hwi
  cases hcl : clashM (gapsM allT c)
  case true =>
    have HCL : Hid (clashR (belT (rl c.wi.toNat fun _ => true)) c = true) := by unfold Hid; rw [hbt, hcl]
    have HRI : Hid (RingOK c.all (ringL c.all)) := ring_ok h0 hcl
    obtain ⟨W, hWe⟩ : ∃ W, askedC c [a, b] = W := ⟨_, rfl⟩
    have HE := hid hWe
    have hW0 : W ≠ 0 := by rw [← hWe]; exact asked_clash h0 hcl
    have hR : ringC c = 0 := by unfold ringC; rw [if_neg (by simp [h0]), if_pos hcl]
    have K := ring_any _ c w12 (HO.out w12 h12) HSZ.out
    rw [hR] at K
    have HK := hid K
    clear K hR h0 hWe hbt hcl
    go_wp2_with fail
    clear a0 a1 a2 a3 x0 x1 x2 x3 q0 q1 q2 q3
    refine (HK.out).mono ?_
    rintro e w13 ⟨r9, rfl, h, -, hr9⟩
    have h13 := h12.trans h
    clear h
    obtain ⟨g9, k9, rfl, hI9⟩ := hr9 (by first | rfl | trivial)
    clear HK hr9
    have HI9 := hid hI9
    clear hI9
    obtain ⟨⟨a0, a1, a2, a3⟩, ⟨x0, x1, x2, x3⟩, q0, q1, q2, q3⟩ := FC.out w13 h13
    have K := refcheck_any _ c w13 (HXX.out w13 h13) HSZ.out
    rw [H0.out] at K
    have HK := hid K
    clear K
    go_wp2_with fail
    clear a0 a1 a2 a3 x0 x1 x2 x3 q0 q1 q2 q3
    refine (HK.out).mono ?_
    rintro e w14 ⟨rfl, h⟩
    have h14 := h13.trans h
    have HI10 : Hid (Ints w14 (some ⟨g9, 0, none⟩) (ringL c.all)) := HI9.out.ext h
    clear h
    clear HK
    obtain ⟨⟨a0, a1, a2, a3⟩, ⟨x0, x1, x2, x3⟩, q0, q1, q2, q3⟩ := FC.out w14 h14
    go_wp2
    clear a0 a1 a2 a3 x0 x1 x2 x3 q0 q1 q2 q3
    refine wp_region_shut Ext (fun w' => Ext w14 w') (fun | 2 => some (fun v w' => ∃ B, v = .slice (some ⟨B, 0, none⟩) c.wi.toNat c.wi.toNat ∧ Bools w' (some ⟨B, 0, none⟩) (rl c.wi.toNat fun _ => true)) | 3 => some (fun v _ => v = .bool true) | _ => none) (by kernel_rfl) (by kernel_rfl) (fun _ _ h k => h.trans k) ?hTtrue (Ext.drew (Ext.refl w14)) ?_
    case hTtrue =>
      intro i R hR
      match i, hR with
      | 2, hR => cases hR; exact fun _ _ _ ⟨B, e, h⟩ k => ⟨B, e, h.ext k⟩
      | 3, hR => cases hR; exact fun _ _ _ h _ => h
    refine wM_val ?uztrue_0 rfl rfl Ext.refl (fun w' hD => ?hztrue_0) (fun phztrue_0 => ?nztrue_0)
    case hztrue_0 =>
      obtain ⟨-, ⟨d0, d1, d2, d3⟩, -⟩ := FC.out _ (h14.trans hD.1)
      go_simp; rfl
    simp only [Act.put, List.setIfInBounds_toArray, List.set_cons_succ, List.set_cons_zero, Nat.reduceAdd]
    refine wM_val ?uztrue_1 rfl rfl Ext.refl (fun w' hD => ?hztrue_1) (fun phztrue_1 => ?nztrue_1)
    case hztrue_1 =>
      obtain ⟨-, ⟨d0, d1, d2, d3⟩, -⟩ := FC.out _ (h14.trans hD.1)
      go_simp; rfl
    simp only [Act.put, List.setIfInBounds_toArray, List.set_cons_succ, List.set_cons_zero, Nat.reduceAdd]
    refine wM_op _ rfl rfl (opens_call ?fztrue_2 ?gztrue_2 (fun w' hD => ?hztrue_2) (fun w' hD => ?cztrue_2)) (fun v2 hv2 => ?nztrue_2)
    case hztrue_2 => go_simp; constructor <;> rfl
    case cztrue_2 =>
      refine (refevery_any _ c w' (HXX.out w' (h14.trans hD.1)) HWI.out.1 HWI.out.2).mono ?_
      rintro e w2 ⟨B, rfl, -, hB, hb⟩
      exact ⟨_, rfl, hb, B, rfl, hB.bools⟩
    obtain ⟨_, -, -, Be, rfl, -⟩ := hv2
    simp only [Act.put, List.setIfInBounds_toArray, List.set_cons_succ, List.set_cons_zero, Nat.reduceAdd]
    refine wM_op _ rfl rfl (opens_call ?fztrue_3 ?gztrue_3 (fun w' hD => ?hztrue_3) (fun w' hD => ?cztrue_3)) (fun v3 hv3 => ?nztrue_3)
    case hztrue_3 => go_simp; constructor <;> rfl
    case cztrue_3 =>
      obtain ⟨-, B9, e9, hB9⟩ := hD.get 2 (by first | kernel_rfl | simp [Region.binds])
      cases e9
      have K := refclash_any _ c (some ⟨Be, 0, none⟩) c.wi.toNat (rl c.wi.toNat fun _ => true) w' (HXX.out w' (h14.trans hD.1)) HSZ.out H0.out hB9 (rl_len _ _)
      rw [rl_len, HCL.out] at K
      refine K.mono ?_
      rintro e w2 ⟨rfl, hb⟩
      exact ⟨_, rfl, hb, rfl⟩
    obtain ⟨_, -, -, rfl⟩ := hv3
    simp only [Act.put, List.setIfInBounds_toArray, List.set_cons_succ, List.set_cons_zero, Nat.reduceAdd]
    refine wM_nil ?_
    intro w15 hw15 hF9
    clear hF9
    have HI11 : Hid (Ints w15 (some ⟨g9, 0, none⟩) (ringL c.all)) := HI10.out.ext hw15
    have h15 := h14.trans hw15
    clear hw15
    obtain ⟨⟨a0, a1, a2, a3⟩, ⟨x0, x1, x2, x3⟩, q0, q1, q2, q3⟩ := FC.out w15 h15
    go_wp2_with fail
    clear a0 a1 a2 a3 x0 x1 x2 x3 q0 q1 q2 q3
    refine (round_any _ c (some ⟨g9, 0, none⟩) k9 (ringL c.all) w15 (HXX.out w15 h15) HSZ.out HI11.out H0.out HRI.out).mono ?_
    rintro e w16 ⟨rfl, h⟩
    have h16 := h15.trans h
    clear h
    obtain ⟨⟨a0, a1, a2, a3⟩, ⟨x0, x1, x2, x3⟩, q0, q1, q2, q3⟩ := FC.out w16 h16
    obtain ⟨e1, e2, e3, e4⟩ := rows_err HE.out hW0
    have m1 : (W == W) = true := by simp
    have m2 : (W != 0) = true := by simpa using hW0
    have E1 := hid e1
    have E2 := hid e2
    have E3 := hid e3
    have E4 := hid e4
    clear e1 e2 e3 e4
    have K := refasked_any _ c a b w16 (HXX.out w16 h16) HSZ.out
    rw [HE.out] at K
    have HK := hid K
    clear K
    go_wp2_with fail
    clear a0 a1 a2 a3 x0 x1 x2 x3 q0 q1 q2 q3
    refine (HK.out).mono ?_
    rintro e w17 ⟨rfl, h⟩
    have h17 := h16.trans h
    clear h
    clear HK
    obtain ⟨⟨a0, a1, a2, a3⟩, ⟨x0, x1, x2, x3⟩, q0, q1, q2, q3⟩ := FC.out w17 h17
    have K := gap_any _ c a b w17 (HO.out w17 h17) HSZ.out
    rw [E1.out] at K
    have HK := hid K
    clear K
    go_wp2_with fail
    clear a0 a1 a2 a3 x0 x1 x2 x3 q0 q1 q2 q3
    refine (HK.out).mono ?_
    rintro e w18 ⟨rfl, h⟩
    have h18 := h17.trans h
    clear h
    clear HK
    obtain ⟨⟨a0, a1, a2, a3⟩, ⟨x0, x1, x2, x3⟩, q0, q1, q2, q3⟩ := FC.out w18 h18
    have K := rowa_any _ c a b w18 (HO.out w18 h18) HSZ.out
    unfold RowPost at K
    rw [E2.out] at K
    have HK := hid K
    clear K
    go_wp2_with fail
    clear a0 a1 a2 a3 x0 x1 x2 x3 q0 q1 q2 q3
    refine (HK.out).mono ?_
    rintro e w19 ⟨r9, rfl, h, hr9, -⟩
    have h19 := h18.trans h
    clear h
    obtain rfl := hr9 hW0
    clear HK hr9
    obtain ⟨⟨a0, a1, a2, a3⟩, ⟨x0, x1, x2, x3⟩, q0, q1, q2, q3⟩ := FC.out w19 h19
    have K := before_any _ c a b w19 (HO.out w19 h19) HSZ.out
    rw [E3.out] at K
    have HK := hid K
    clear K
    go_wp2_with fail
    clear a0 a1 a2 a3 x0 x1 x2 x3 q0 q1 q2 q3
    refine (HK.out).mono ?_
    rintro e w20 ⟨rfl, h⟩
    have h20 := h19.trans h
    clear h
    clear HK
    obtain ⟨⟨a0, a1, a2, a3⟩, ⟨x0, x1, x2, x3⟩, q0, q1, q2, q3⟩ := FC.out w20 h20
    have K := ask_any _ c a b w20 (HO.out w20 h20) HSZ.out
    rw [E4.out] at K
    have HK := hid K
    clear K
    go_wp2_with fail
    clear a0 a1 a2 a3 x0 x1 x2 x3 q0 q1 q2 q3
    refine HK.out.mono ?_
    clear HK
    rintro e w21 ⟨rfl, h⟩
    have h21 := h20.trans h
    clear h
    obtain ⟨Wz, hWz⟩ : ∃ Wz, w21.alloc (.cells #[.int .i64 0, .int .i64 0] 59) = Wz := ⟨_, rfl⟩
    obtain ⟨Bs, hBs⟩ : ∃ Bs, w21.heap.size = Bs := ⟨_, rfl⟩
    obtain ⟨w22, hWs⟩ : ∃ Ws, (Wz.setCell ⟨Bs, 0, none⟩ (.int .i64 (0))).setCell ⟨Bs, 1, none⟩ (.int .i64 (0)) = Ws := ⟨_, rfl⟩
    have z0 : Wz.cell? ⟨Bs, 0, none⟩ = some (.int .i64 0) := by rw [← hWz, ← hBs]; simp [go_sem]
    have z1 : Wz.cell? ⟨Bs, 1, none⟩ = some (.int .i64 0) := by rw [← hWz, ← hBs]; simp [go_sem]
    have y0 : Wz.frozen? ⟨Bs, 0, none⟩ = false := by rw [← hWz, ← hBs]; simp [go_sem]
    have y1 : Wz.frozen? ⟨Bs, 1, none⟩ = false := by rw [← hWz, ← hBs]; simp [go_sem]
    have h : Ext w21 w22 := by rw [← hWs, ← hWz]; exact (((Ext.refl _).alloc _).setCell (by simp [← hBs]) _).setCell (by simp [← hBs]) _
    have h22 := h21.trans h
    have FS : Hid (∀ w', Ext w22 w' → w'.cell? ⟨Bs, 0, none⟩ = some (.int .i64 (0)) ∧ w'.cell? ⟨Bs, 1, none⟩ = some (.int .i64 (0))) := fun w' h => ⟨h.cell (by rw [← hWs]; simp [go_sem, z0, z1]), h.cell (by rw [← hWs]; simp [go_sem, z0, z1])⟩
    clear h
    obtain ⟨s0, s1⟩ := FS.out w22 (Ext.refl _)
    obtain ⟨⟨a0, a1, a2, a3⟩, ⟨x0, x1, x2, x3⟩, q0, q1, q2, q3⟩ := FC.out w22 h22
    go_wp2_with fail
    clear a0 a1 a2 a3 x0 x1 x2 x3 q0 q1 q2 q3
    try rw [hWz]
    try rw [hBs]
    try rw [hWs]
    try clear hWs hWz hBs z0 z1 y0 y1 s0 s1
    refine (same_yes _ _ c w22 (HO.out w22 h22) (HV.out w22 h22) HSZ.out).mono ?_
    rintro e v1 ⟨rfl, h⟩
    have hh1 := h22.trans h
    clear h
    go_wp2_with fail
    refine (awake_any v1).mono ?_
    rintro e v2 ⟨rfl, h⟩
    go_wp2
    go_ret
    exact ⟨rfl, HXN.out.trans (hh1.trans h)⟩
  have HCL : Hid (clashR (belT (rl c.wi.toNat fun _ => true)) c = false) := by unfold Hid; rw [hbt, hcl]
  have hR : ringC c = 6 := by unfold ringC; rw [if_neg (by simp [h0]), if_neg (by simp [hcl])]
  have K := ring_any _ c w12 (HO.out w12 h12) HSZ.out
  rw [hR] at K
  have HK := hid K
  have HCM := hid hcl
  clear K hR h0 hbt hcl
  go_wp2_with fail
  clear a0 a1 a2 a3 x0 x1 x2 x3 q0 q1 q2 q3
  refine (HK.out).mono ?_
  rintro e w13 ⟨r9, rfl, h, hr9, -⟩
  have h13 := h12.trans h
  clear h
  obtain rfl := hr9 (by decide)
  clear HK hr9
  obtain ⟨⟨a0, a1, a2, a3⟩, ⟨x0, x1, x2, x3⟩, q0, q1, q2, q3⟩ := FC.out w13 h13
  have K := refcheck_any _ c w13 (HXX.out w13 h13) HSZ.out
  rw [H0.out] at K
  have HK := hid K
  clear K
  go_wp2_with fail
  clear a0 a1 a2 a3 x0 x1 x2 x3 q0 q1 q2 q3
  refine (HK.out).mono ?_
  rintro e w14 ⟨rfl, h⟩
  have h14 := h13.trans h
  clear h
  clear HK
  obtain ⟨⟨a0, a1, a2, a3⟩, ⟨x0, x1, x2, x3⟩, q0, q1, q2, q3⟩ := FC.out w14 h14
  go_wp2
  clear a0 a1 a2 a3 x0 x1 x2 x3 q0 q1 q2 q3
  refine wp_region_shut Ext (fun w' => Ext w14 w') (fun | 2 => some (fun v w' => ∃ B, v = .slice (some ⟨B, 0, none⟩) c.wi.toNat c.wi.toNat ∧ Bools w' (some ⟨B, 0, none⟩) (rl c.wi.toNat fun _ => true)) | 3 => some (fun v _ => v = .bool false) | _ => none) (by kernel_rfl) (by kernel_rfl) (fun _ _ h k => h.trans k) ?hTfalse (Ext.drew (Ext.refl w14)) ?_
  case hTfalse =>
    intro i R hR
    match i, hR with
    | 2, hR => cases hR; exact fun _ _ _ ⟨B, e, h⟩ k => ⟨B, e, h.ext k⟩
    | 3, hR => cases hR; exact fun _ _ _ h _ => h
  refine wM_val ?uzfalse_0 rfl rfl Ext.refl (fun w' hD => ?hzfalse_0) (fun phzfalse_0 => ?nzfalse_0)
  case hzfalse_0 =>
    obtain ⟨-, ⟨d0, d1, d2, d3⟩, -⟩ := FC.out _ (h14.trans hD.1)
    go_simp; rfl
  simp only [Act.put, List.setIfInBounds_toArray, List.set_cons_succ, List.set_cons_zero, Nat.reduceAdd]
  refine wM_val ?uzfalse_1 rfl rfl Ext.refl (fun w' hD => ?hzfalse_1) (fun phzfalse_1 => ?nzfalse_1)
  case hzfalse_1 =>
    obtain ⟨-, ⟨d0, d1, d2, d3⟩, -⟩ := FC.out _ (h14.trans hD.1)
    go_simp; rfl
  simp only [Act.put, List.setIfInBounds_toArray, List.set_cons_succ, List.set_cons_zero, Nat.reduceAdd]
  refine wM_op _ rfl rfl (opens_call ?fzfalse_2 ?gzfalse_2 (fun w' hD => ?hzfalse_2) (fun w' hD => ?czfalse_2)) (fun v2 hv2 => ?nzfalse_2)
  case hzfalse_2 => go_simp; constructor <;> rfl
  case czfalse_2 =>
    refine (refevery_any _ c w' (HXX.out w' (h14.trans hD.1)) HWI.out.1 HWI.out.2).mono ?_
    rintro e w2 ⟨B, rfl, -, hB, hb⟩
    exact ⟨_, rfl, hb, B, rfl, hB.bools⟩
  obtain ⟨_, -, -, Be, rfl, -⟩ := hv2
  simp only [Act.put, List.setIfInBounds_toArray, List.set_cons_succ, List.set_cons_zero, Nat.reduceAdd]
  refine wM_op _ rfl rfl (opens_call ?fzfalse_3 ?gzfalse_3 (fun w' hD => ?hzfalse_3) (fun w' hD => ?czfalse_3)) (fun v3 hv3 => ?nzfalse_3)
  case hzfalse_3 => go_simp; constructor <;> rfl
  case czfalse_3 =>
    obtain ⟨-, B9, e9, hB9⟩ := hD.get 2 (by first | kernel_rfl | simp [Region.binds])
    cases e9
    have K := refclash_any _ c (some ⟨Be, 0, none⟩) c.wi.toNat (rl c.wi.toNat fun _ => true) w' (HXX.out w' (h14.trans hD.1)) HSZ.out H0.out hB9 (rl_len _ _)
    rw [rl_len, HCL.out] at K
    refine K.mono ?_
    rintro e w2 ⟨rfl, hb⟩
    exact ⟨_, rfl, hb, rfl⟩
  obtain ⟨_, -, -, rfl⟩ := hv3
  simp only [Act.put, List.setIfInBounds_toArray, List.set_cons_succ, List.set_cons_zero, Nat.reduceAdd]
  refine wM_nil ?_
  intro w15 hw15 hF9
  clear hF9
  have h15 := h14.trans hw15
  clear hw15
  obtain ⟨⟨a0, a1, a2, a3⟩, ⟨x0, x1, x2, x3⟩, q0, q1, q2, q3⟩ := FC.out w15 h15
  by_cases hae : askedC c [a, b] = 0
  case neg =>
    obtain ⟨W, hWe⟩ : ∃ W, askedC c [a, b] = W := ⟨_, rfl⟩
    have HE := hid hWe
    have hW0 : W ≠ 0 := by rw [← hWe]; exact hae
    clear hWe hae
    obtain ⟨e1, e2, e3, e4⟩ := rows_err HE.out hW0
    have m1 : (W == W) = true := by simp
    have m2 : (W != 0) = true := by simpa using hW0
    have E1 := hid e1
    have E2 := hid e2
    have E3 := hid e3
    have E4 := hid e4
    clear e1 e2 e3 e4
    have K := refasked_any _ c a b w15 (HXX.out w15 h15) HSZ.out
    rw [HE.out] at K
    have HK := hid K
    clear K
    go_wp2_with fail
    clear a0 a1 a2 a3 x0 x1 x2 x3 q0 q1 q2 q3
    refine (HK.out).mono ?_
    rintro e w16 ⟨rfl, h⟩
    have h16 := h15.trans h
    clear h
    clear HK
    obtain ⟨⟨a0, a1, a2, a3⟩, ⟨x0, x1, x2, x3⟩, q0, q1, q2, q3⟩ := FC.out w16 h16
    have K := gap_any _ c a b w16 (HO.out w16 h16) HSZ.out
    rw [E1.out] at K
    have HK := hid K
    clear K
    go_wp2_with fail
    clear a0 a1 a2 a3 x0 x1 x2 x3 q0 q1 q2 q3
    refine (HK.out).mono ?_
    rintro e w17 ⟨rfl, h⟩
    have h17 := h16.trans h
    clear h
    clear HK
    obtain ⟨⟨a0, a1, a2, a3⟩, ⟨x0, x1, x2, x3⟩, q0, q1, q2, q3⟩ := FC.out w17 h17
    have K := rowa_any _ c a b w17 (HO.out w17 h17) HSZ.out
    unfold RowPost at K
    rw [E2.out] at K
    have HK := hid K
    clear K
    go_wp2_with fail
    clear a0 a1 a2 a3 x0 x1 x2 x3 q0 q1 q2 q3
    refine (HK.out).mono ?_
    rintro e w18 ⟨r9, rfl, h, hr9, -⟩
    have h18 := h17.trans h
    clear h
    obtain rfl := hr9 hW0
    clear HK hr9
    obtain ⟨⟨a0, a1, a2, a3⟩, ⟨x0, x1, x2, x3⟩, q0, q1, q2, q3⟩ := FC.out w18 h18
    have K := before_any _ c a b w18 (HO.out w18 h18) HSZ.out
    rw [E3.out] at K
    have HK := hid K
    clear K
    go_wp2_with fail
    clear a0 a1 a2 a3 x0 x1 x2 x3 q0 q1 q2 q3
    refine (HK.out).mono ?_
    rintro e w19 ⟨rfl, h⟩
    have h19 := h18.trans h
    clear h
    clear HK
    obtain ⟨⟨a0, a1, a2, a3⟩, ⟨x0, x1, x2, x3⟩, q0, q1, q2, q3⟩ := FC.out w19 h19
    have K := ask_any _ c a b w19 (HO.out w19 h19) HSZ.out
    rw [E4.out] at K
    have HK := hid K
    clear K
    go_wp2_with fail
    clear a0 a1 a2 a3 x0 x1 x2 x3 q0 q1 q2 q3
    refine HK.out.mono ?_
    clear HK
    rintro e w20 ⟨rfl, h⟩
    have h20 := h19.trans h
    clear h
    obtain ⟨Wz, hWz⟩ : ∃ Wz, w20.alloc (.cells #[.int .i64 0, .int .i64 0] 59) = Wz := ⟨_, rfl⟩
    obtain ⟨Bs, hBs⟩ : ∃ Bs, w20.heap.size = Bs := ⟨_, rfl⟩
    obtain ⟨w21, hWs⟩ : ∃ Ws, (Wz.setCell ⟨Bs, 0, none⟩ (.int .i64 (0))).setCell ⟨Bs, 1, none⟩ (.int .i64 (0)) = Ws := ⟨_, rfl⟩
    have z0 : Wz.cell? ⟨Bs, 0, none⟩ = some (.int .i64 0) := by rw [← hWz, ← hBs]; simp [go_sem]
    have z1 : Wz.cell? ⟨Bs, 1, none⟩ = some (.int .i64 0) := by rw [← hWz, ← hBs]; simp [go_sem]
    have y0 : Wz.frozen? ⟨Bs, 0, none⟩ = false := by rw [← hWz, ← hBs]; simp [go_sem]
    have y1 : Wz.frozen? ⟨Bs, 1, none⟩ = false := by rw [← hWz, ← hBs]; simp [go_sem]
    have h : Ext w20 w21 := by rw [← hWs, ← hWz]; exact (((Ext.refl _).alloc _).setCell (by simp [← hBs]) _).setCell (by simp [← hBs]) _
    have h21 := h20.trans h
    have FS : Hid (∀ w', Ext w21 w' → w'.cell? ⟨Bs, 0, none⟩ = some (.int .i64 (0)) ∧ w'.cell? ⟨Bs, 1, none⟩ = some (.int .i64 (0))) := fun w' h => ⟨h.cell (by rw [← hWs]; simp [go_sem, z0, z1]), h.cell (by rw [← hWs]; simp [go_sem, z0, z1])⟩
    clear h
    obtain ⟨s0, s1⟩ := FS.out w21 (Ext.refl _)
    obtain ⟨⟨a0, a1, a2, a3⟩, ⟨x0, x1, x2, x3⟩, q0, q1, q2, q3⟩ := FC.out w21 h21
    go_wp2_with fail
    clear a0 a1 a2 a3 x0 x1 x2 x3 q0 q1 q2 q3
    try rw [hWz]
    try rw [hBs]
    try rw [hWs]
    try clear hWs hWz hBs z0 z1 y0 y1 s0 s1
    refine (same_yes _ _ c w21 (HO.out w21 h21) (HV.out w21 h21) HSZ.out).mono ?_
    rintro e v1 ⟨rfl, h⟩
    have hh1 := h21.trans h
    clear h
    go_wp2_with fail
    refine (awake_any v1).mono ?_
    rintro e v2 ⟨rfl, h⟩
    go_wp2
    go_ret
    exact ⟨rfl, HXN.out.trans (hh1.trans h)⟩
  obtain ⟨-, -, hlt⟩ := askedC_parts hae
  have ha := hlt a (by simp)
  have hb := hlt b (by simp)
  obtain ⟨an, rfl⟩ : ∃ n : Nat, a = n := ⟨a.toNat, by omega⟩
  obtain ⟨bn, rfl⟩ : ∃ n : Nat, b = n := ⟨b.toNat, by omega⟩
  have HLA : Hid ((an : Int) < c.ev) := ha.2
  have HLB : Hid ((bn : Int) < c.ev) := hb.2
  obtain ⟨⟨gx, hg1, hv1⟩, ⟨gy, hg2, hv2⟩, hno, hyes, hrow, hshow, hneg⟩ := rows_ok H0.out HCM.out ha.2 hb.2
  have e1 : gapOf c an bn = if gapsM allT c an bn = far then (0, 6) else (gapsM allT c an bn, 0) := by unfold gapOf; rw [if_pos hae]; simp only [Int.toNat_natCast]
  have e2 : rowC c an bn = if gapsM allT c an bn = far then 6 else 0 := by unfold rowC; rw [if_pos hae]; simp only [Int.toNat_natCast]
  have e3 : beforeOf c an bn = (if gapsM allT c bn an < 0 then 1 else if gapsM allT c an bn ≤ 0 then 2 else 0, 0) := by unfold beforeOf verdictM; rw [if_pos hae]; simp only [Int.toNat_natCast]
  have e4 : askOf c an bn = if gapsM allT c an bn = far ∨ gapsM allT c bn an = far then ((0, 0), 6) else ((-gapsM allT c bn an, gapsM allT c an bn), 0) := by unfold askOf; rw [if_pos hae]; simp only [Int.toNat_natCast]
  have HE := hid hae
  clear ha hb hlt hae
  generalize gapsM allT c an bn = G at *
  generalize gapsM allT c bn an = H at *
  have m1 : (G == G) = true := by simp
  have m2 : (-H == -H) = true := by simp
  have m3 : (G != G) = false := by simp
  by_cases hGf : G = far
  · have hG1 : decide (G ≠ far) = false := by simp [hGf]
    rw [if_pos hGf] at e1 e2
    rw [if_pos (Or.inl hGf)] at e4
    rw [hG1] at hg1 hno
    have hG0 : ¬ G ≤ 0 := by rw [hGf]; decide
    rw [if_neg hG0] at e3
    rw [Bool.false_and] at hno
    clear hrow hshow hv1 hneg m1 m2 m3
    obtain ⟨too, htoo⟩ : ∃ t, decide (H ≠ far) = t := ⟨_, rfl⟩
    rw [htoo] at hg2
    by_cases hH : H < 0
    · rw [if_pos hH] at e3
      have hy : (decide (H ≠ far) && decide (H ≤ -1)) = true := by unfold far; simp; omega
      rw [hy] at hyes
      clear hy hH htoo hv2
      have E1 := hid e1
      have E2 := hid e2
      have E3 := hid e3
      have E4 := hid e4
      have G1 := hid hg1
      have G2 := hid hg2
      have NO := hid hno
      have YES := hid hyes
      clear e1 e2 e3 e4 hg1 hg2 hno hyes
      have K := refasked_any _ c an bn w15 (HXX.out w15 h15) HSZ.out
      rw [HE.out] at K
      have HK := hid K
      clear K
      go_wp2_with fail
      clear a0 a1 a2 a3 x0 x1 x2 x3 q0 q1 q2 q3
      refine (HK.out).mono ?_
      rintro e w16 ⟨rfl, h⟩
      have h16 := h15.trans h
      clear h
      clear HK
      obtain ⟨⟨a0, a1, a2, a3⟩, ⟨x0, x1, x2, x3⟩, q0, q1, q2, q3⟩ := FC.out w16 h16
      have K := gap_any _ c an bn w16 (HO.out w16 h16) HSZ.out
      rw [E1.out] at K
      have HK := hid K
      clear K
      go_wp2_with fail
      clear a0 a1 a2 a3 x0 x1 x2 x3 q0 q1 q2 q3
      refine (HK.out).mono ?_
      rintro e w17 ⟨rfl, h⟩
      have h17 := h16.trans h
      clear h
      clear HK
      obtain ⟨⟨a0, a1, a2, a3⟩, ⟨x0, x1, x2, x3⟩, q0, q1, q2, q3⟩ := FC.out w17 h17
      have K := rowa_any _ c an bn w17 (HO.out w17 h17) HSZ.out
      unfold RowPost at K
      rw [E2.out] at K
      have HK := hid K
      clear K
      go_wp2_with fail
      clear a0 a1 a2 a3 x0 x1 x2 x3 q0 q1 q2 q3
      refine (HK.out).mono ?_
      rintro e w18 ⟨r9, rfl, h, hr9, -⟩
      have h18 := h17.trans h
      clear h
      obtain rfl := hr9 (by decide)
      clear HK hr9
      obtain ⟨⟨a0, a1, a2, a3⟩, ⟨x0, x1, x2, x3⟩, q0, q1, q2, q3⟩ := FC.out w18 h18
      have K := before_any _ c an bn w18 (HO.out w18 h18) HSZ.out
      rw [E3.out] at K
      have HK := hid K
      clear K
      go_wp2_with fail
      clear a0 a1 a2 a3 x0 x1 x2 x3 q0 q1 q2 q3
      refine (HK.out).mono ?_
      rintro e w19 ⟨rfl, h⟩
      have h19 := h18.trans h
      clear h
      clear HK
      obtain ⟨⟨a0, a1, a2, a3⟩, ⟨x0, x1, x2, x3⟩, q0, q1, q2, q3⟩ := FC.out w19 h19
      have K := ask_any _ c an bn w19 (HO.out w19 h19) HSZ.out
      rw [E4.out] at K
      have HK := hid K
      clear K
      go_wp2_with fail
      clear a0 a1 a2 a3 x0 x1 x2 x3 q0 q1 q2 q3
      refine HK.out.mono ?_
      clear HK
      rintro e w20 ⟨rfl, h⟩
      have h20 := h19.trans h
      clear h
      obtain ⟨Wz, hWz⟩ : ∃ Wz, w20.alloc (.cells #[.int .i64 0, .int .i64 0] 59) = Wz := ⟨_, rfl⟩
      obtain ⟨Bs, hBs⟩ : ∃ Bs, w20.heap.size = Bs := ⟨_, rfl⟩
      obtain ⟨w21, hWs⟩ : ∃ Ws, (Wz.setCell ⟨Bs, 0, none⟩ (.int .i64 (0))).setCell ⟨Bs, 1, none⟩ (.int .i64 (0)) = Ws := ⟨_, rfl⟩
      have z0 : Wz.cell? ⟨Bs, 0, none⟩ = some (.int .i64 0) := by rw [← hWz, ← hBs]; simp [go_sem]
      have z1 : Wz.cell? ⟨Bs, 1, none⟩ = some (.int .i64 0) := by rw [← hWz, ← hBs]; simp [go_sem]
      have y0 : Wz.frozen? ⟨Bs, 0, none⟩ = false := by rw [← hWz, ← hBs]; simp [go_sem]
      have y1 : Wz.frozen? ⟨Bs, 1, none⟩ = false := by rw [← hWz, ← hBs]; simp [go_sem]
      have h : Ext w20 w21 := by rw [← hWs, ← hWz]; exact (((Ext.refl _).alloc _).setCell (by simp [← hBs]) _).setCell (by simp [← hBs]) _
      have h21 := h20.trans h
      have FS : Hid (∀ w', Ext w21 w' → w'.cell? ⟨Bs, 0, none⟩ = some (.int .i64 (0)) ∧ w'.cell? ⟨Bs, 1, none⟩ = some (.int .i64 (0))) := fun w' h => ⟨h.cell (by rw [← hWs]; simp [go_sem, z0, z1]), h.cell (by rw [← hWs]; simp [go_sem, z0, z1])⟩
      clear h
      obtain ⟨s0, s1⟩ := FS.out w21 (Ext.refl _)
      obtain ⟨⟨a0, a1, a2, a3⟩, ⟨x0, x1, x2, x3⟩, q0, q1, q2, q3⟩ := FC.out w21 h21
      have K := refevery_any _ c w21 (HXX.out w21 h21) HWI.out.1 HWI.out.2
      have HK := hid K
      clear K
      go_wp2_with fail
      clear a0 a1 a2 a3 x0 x1 x2 x3 q0 q1 q2 q3
      try rw [hWz]
      try rw [hBs]
      try rw [hWs]
      try clear hWs hWz hBs z0 z1 y0 y1 s0 s1
      refine HK.out.mono ?_
      rintro e w22 ⟨Be, rfl, -, hBe, h⟩
      have h22 := h21.trans h
      have FS1 : Hid (∀ w', Ext w22 w' → w'.cell? ⟨Bs, 0, none⟩ = some (.int .i64 (0)) ∧ w'.cell? ⟨Bs, 1, none⟩ = some (.int .i64 (0))) := fun w' k => FS.out w' (h.trans k)
      have HBE : Hid (∀ w', Ext w22 w' → Bools w' (some ⟨Be, 0, none⟩) (rl c.wi.toNat fun _ => true)) := fun w' k => hBe.bools.ext k
      clear h hBe HK FS
      have t22 : Ext w22 w22 := Ext.refl _
      obtain ⟨⟨a0, a1, a2, a3⟩, ⟨x0, x1, x2, x3⟩, q0, q1, q2, q3⟩ := FC.out w22 h22
      have K := refgap_any _ c (some ⟨Be, 0, none⟩) c.wi.toNat (rl c.wi.toNat fun _ => true) an bn w22 (HXX.out w22 h22) HSZ.out H0.out (HBE.out w22 t22) (rl_len _ _) HLA.out HLB.out
      rw [rl_len, G1.out] at K
      have HK := hid K
      clear K
      go_wp2_with fail
      clear a0 a1 a2 a3 x0 x1 x2 x3 q0 q1 q2 q3
      refine (HK.out).mono ?_
      rintro e w23 ⟨rfl, h⟩
      have h23 := h22.trans h
      have t23 := t22.trans h
      clear h
      clear HK
      obtain ⟨⟨a0, a1, a2, a3⟩, ⟨x0, x1, x2, x3⟩, q0, q1, q2, q3⟩ := FC.out w23 h23
      have K := refgap_any _ c (some ⟨Be, 0, none⟩) c.wi.toNat (rl c.wi.toNat fun _ => true) bn an w23 (HXX.out w23 h23) HSZ.out H0.out (HBE.out w23 t23) (rl_len _ _) HLB.out HLA.out
      rw [rl_len, G2.out] at K
      have HK := hid K
      clear K
      go_wp2_with fail
      clear a0 a1 a2 a3 x0 x1 x2 x3 q0 q1 q2 q3
      refine (HK.out).mono ?_
      rintro e w24 ⟨rfl, h⟩
      have h24 := h23.trans h
      have t24 := t23.trans h
      clear h
      clear HK
      obtain ⟨⟨a0, a1, a2, a3⟩, ⟨x0, x1, x2, x3⟩, q0, q1, q2, q3⟩ := FC.out w24 h24
      have K := refno_any _ c (some ⟨Be, 0, none⟩) c.wi.toNat (rl c.wi.toNat fun _ => true) an bn w24 (HXX.out w24 h24) HSZ.out H0.out (HBE.out w24 t24) (rl_len _ _) HLA.out HLB.out
      rw [rl_len, NO.out] at K
      have HK := hid K
      clear K
      go_wp2_with fail
      clear a0 a1 a2 a3 x0 x1 x2 x3 q0 q1 q2 q3
      refine (HK.out).mono ?_
      rintro e w25 ⟨rfl, h⟩
      have h25 := h24.trans h
      have t25 := t24.trans h
      clear h
      clear HK
      obtain ⟨⟨a0, a1, a2, a3⟩, ⟨x0, x1, x2, x3⟩, q0, q1, q2, q3⟩ := FC.out w25 h25
      have K := refyes_any _ c (some ⟨Be, 0, none⟩) c.wi.toNat (rl c.wi.toNat fun _ => true) an bn w25 (HXX.out w25 h25) HSZ.out H0.out (HBE.out w25 t25) (rl_len _ _) HLA.out HLB.out
      rw [rl_len, YES.out] at K
      have HK := hid K
      clear K
      go_wp2_with fail
      clear a0 a1 a2 a3 x0 x1 x2 x3 q0 q1 q2 q3
      refine (HK.out).mono ?_
      rintro e w26 ⟨rfl, h⟩
      have h26 := h25.trans h
      have t26 := t25.trans h
      clear h
      clear HK
      obtain ⟨⟨a0, a1, a2, a3⟩, ⟨x0, x1, x2, x3⟩, q0, q1, q2, q3⟩ := FC.out w26 h26
      obtain ⟨s0, s1⟩ := FS1.out w26 t26
      go_wp2_with fail
      clear a0 a1 a2 a3 x0 x1 x2 x3 q0 q1 q2 q3
      try rw [hWz]
      try rw [hBs]
      try rw [hWs]
      try clear hWs hWz hBs z0 z1 y0 y1 s0 s1
      refine (same_yes _ _ c w26 (HO.out w26 h26) (HV.out w26 h26) HSZ.out).mono ?_
      rintro e v1 ⟨rfl, h⟩
      have hh1 := h26.trans h
      clear h
      go_wp2_with fail
      refine (awake_any v1).mono ?_
      rintro e v2 ⟨rfl, h⟩
      go_wp2
      go_ret
      exact ⟨rfl, HXN.out.trans (hh1.trans h)⟩
    · rw [if_neg hH] at e3
      have hy1 : decide (H ≤ -1) = false := by rw [decide_eq_false_iff_not]; omega
      have hy : (decide (H ≠ far) && decide (H ≤ -1)) = false := by rw [hy1, Bool.and_false]
      clear hy1
      rw [hy] at hyes
      clear hy hH htoo hv2
      have E1 := hid e1
      have E2 := hid e2
      have E3 := hid e3
      have E4 := hid e4
      have G1 := hid hg1
      have G2 := hid hg2
      have NO := hid hno
      have YES := hid hyes
      clear e1 e2 e3 e4 hg1 hg2 hno hyes
      have K := refasked_any _ c an bn w15 (HXX.out w15 h15) HSZ.out
      rw [HE.out] at K
      have HK := hid K
      clear K
      go_wp2_with fail
      clear a0 a1 a2 a3 x0 x1 x2 x3 q0 q1 q2 q3
      refine (HK.out).mono ?_
      rintro e w16 ⟨rfl, h⟩
      have h16 := h15.trans h
      clear h
      clear HK
      obtain ⟨⟨a0, a1, a2, a3⟩, ⟨x0, x1, x2, x3⟩, q0, q1, q2, q3⟩ := FC.out w16 h16
      have K := gap_any _ c an bn w16 (HO.out w16 h16) HSZ.out
      rw [E1.out] at K
      have HK := hid K
      clear K
      go_wp2_with fail
      clear a0 a1 a2 a3 x0 x1 x2 x3 q0 q1 q2 q3
      refine (HK.out).mono ?_
      rintro e w17 ⟨rfl, h⟩
      have h17 := h16.trans h
      clear h
      clear HK
      obtain ⟨⟨a0, a1, a2, a3⟩, ⟨x0, x1, x2, x3⟩, q0, q1, q2, q3⟩ := FC.out w17 h17
      have K := rowa_any _ c an bn w17 (HO.out w17 h17) HSZ.out
      unfold RowPost at K
      rw [E2.out] at K
      have HK := hid K
      clear K
      go_wp2_with fail
      clear a0 a1 a2 a3 x0 x1 x2 x3 q0 q1 q2 q3
      refine (HK.out).mono ?_
      rintro e w18 ⟨r9, rfl, h, hr9, -⟩
      have h18 := h17.trans h
      clear h
      obtain rfl := hr9 (by decide)
      clear HK hr9
      obtain ⟨⟨a0, a1, a2, a3⟩, ⟨x0, x1, x2, x3⟩, q0, q1, q2, q3⟩ := FC.out w18 h18
      have K := before_any _ c an bn w18 (HO.out w18 h18) HSZ.out
      rw [E3.out] at K
      have HK := hid K
      clear K
      go_wp2_with fail
      clear a0 a1 a2 a3 x0 x1 x2 x3 q0 q1 q2 q3
      refine (HK.out).mono ?_
      rintro e w19 ⟨rfl, h⟩
      have h19 := h18.trans h
      clear h
      clear HK
      obtain ⟨⟨a0, a1, a2, a3⟩, ⟨x0, x1, x2, x3⟩, q0, q1, q2, q3⟩ := FC.out w19 h19
      have K := ask_any _ c an bn w19 (HO.out w19 h19) HSZ.out
      rw [E4.out] at K
      have HK := hid K
      clear K
      go_wp2_with fail
      clear a0 a1 a2 a3 x0 x1 x2 x3 q0 q1 q2 q3
      refine HK.out.mono ?_
      clear HK
      rintro e w20 ⟨rfl, h⟩
      have h20 := h19.trans h
      clear h
      obtain ⟨Wz, hWz⟩ : ∃ Wz, w20.alloc (.cells #[.int .i64 0, .int .i64 0] 59) = Wz := ⟨_, rfl⟩
      obtain ⟨Bs, hBs⟩ : ∃ Bs, w20.heap.size = Bs := ⟨_, rfl⟩
      obtain ⟨w21, hWs⟩ : ∃ Ws, (Wz.setCell ⟨Bs, 0, none⟩ (.int .i64 (0))).setCell ⟨Bs, 1, none⟩ (.int .i64 (0)) = Ws := ⟨_, rfl⟩
      have z0 : Wz.cell? ⟨Bs, 0, none⟩ = some (.int .i64 0) := by rw [← hWz, ← hBs]; simp [go_sem]
      have z1 : Wz.cell? ⟨Bs, 1, none⟩ = some (.int .i64 0) := by rw [← hWz, ← hBs]; simp [go_sem]
      have y0 : Wz.frozen? ⟨Bs, 0, none⟩ = false := by rw [← hWz, ← hBs]; simp [go_sem]
      have y1 : Wz.frozen? ⟨Bs, 1, none⟩ = false := by rw [← hWz, ← hBs]; simp [go_sem]
      have h : Ext w20 w21 := by rw [← hWs, ← hWz]; exact (((Ext.refl _).alloc _).setCell (by simp [← hBs]) _).setCell (by simp [← hBs]) _
      have h21 := h20.trans h
      have FS : Hid (∀ w', Ext w21 w' → w'.cell? ⟨Bs, 0, none⟩ = some (.int .i64 (0)) ∧ w'.cell? ⟨Bs, 1, none⟩ = some (.int .i64 (0))) := fun w' h => ⟨h.cell (by rw [← hWs]; simp [go_sem, z0, z1]), h.cell (by rw [← hWs]; simp [go_sem, z0, z1])⟩
      clear h
      obtain ⟨s0, s1⟩ := FS.out w21 (Ext.refl _)
      obtain ⟨⟨a0, a1, a2, a3⟩, ⟨x0, x1, x2, x3⟩, q0, q1, q2, q3⟩ := FC.out w21 h21
      have K := refevery_any _ c w21 (HXX.out w21 h21) HWI.out.1 HWI.out.2
      have HK := hid K
      clear K
      go_wp2_with fail
      clear a0 a1 a2 a3 x0 x1 x2 x3 q0 q1 q2 q3
      try rw [hWz]
      try rw [hBs]
      try rw [hWs]
      try clear hWs hWz hBs z0 z1 y0 y1 s0 s1
      refine HK.out.mono ?_
      rintro e w22 ⟨Be, rfl, -, hBe, h⟩
      have h22 := h21.trans h
      have FS1 : Hid (∀ w', Ext w22 w' → w'.cell? ⟨Bs, 0, none⟩ = some (.int .i64 (0)) ∧ w'.cell? ⟨Bs, 1, none⟩ = some (.int .i64 (0))) := fun w' k => FS.out w' (h.trans k)
      have HBE : Hid (∀ w', Ext w22 w' → Bools w' (some ⟨Be, 0, none⟩) (rl c.wi.toNat fun _ => true)) := fun w' k => hBe.bools.ext k
      clear h hBe HK FS
      have t22 : Ext w22 w22 := Ext.refl _
      obtain ⟨⟨a0, a1, a2, a3⟩, ⟨x0, x1, x2, x3⟩, q0, q1, q2, q3⟩ := FC.out w22 h22
      have K := refgap_any _ c (some ⟨Be, 0, none⟩) c.wi.toNat (rl c.wi.toNat fun _ => true) an bn w22 (HXX.out w22 h22) HSZ.out H0.out (HBE.out w22 t22) (rl_len _ _) HLA.out HLB.out
      rw [rl_len, G1.out] at K
      have HK := hid K
      clear K
      go_wp2_with fail
      clear a0 a1 a2 a3 x0 x1 x2 x3 q0 q1 q2 q3
      refine (HK.out).mono ?_
      rintro e w23 ⟨rfl, h⟩
      have h23 := h22.trans h
      have t23 := t22.trans h
      clear h
      clear HK
      obtain ⟨⟨a0, a1, a2, a3⟩, ⟨x0, x1, x2, x3⟩, q0, q1, q2, q3⟩ := FC.out w23 h23
      have K := refgap_any _ c (some ⟨Be, 0, none⟩) c.wi.toNat (rl c.wi.toNat fun _ => true) bn an w23 (HXX.out w23 h23) HSZ.out H0.out (HBE.out w23 t23) (rl_len _ _) HLB.out HLA.out
      rw [rl_len, G2.out] at K
      have HK := hid K
      clear K
      go_wp2_with fail
      clear a0 a1 a2 a3 x0 x1 x2 x3 q0 q1 q2 q3
      refine (HK.out).mono ?_
      rintro e w24 ⟨rfl, h⟩
      have h24 := h23.trans h
      have t24 := t23.trans h
      clear h
      clear HK
      obtain ⟨⟨a0, a1, a2, a3⟩, ⟨x0, x1, x2, x3⟩, q0, q1, q2, q3⟩ := FC.out w24 h24
      have K := refno_any _ c (some ⟨Be, 0, none⟩) c.wi.toNat (rl c.wi.toNat fun _ => true) an bn w24 (HXX.out w24 h24) HSZ.out H0.out (HBE.out w24 t24) (rl_len _ _) HLA.out HLB.out
      rw [rl_len, NO.out] at K
      have HK := hid K
      clear K
      go_wp2_with fail
      clear a0 a1 a2 a3 x0 x1 x2 x3 q0 q1 q2 q3
      refine (HK.out).mono ?_
      rintro e w25 ⟨rfl, h⟩
      have h25 := h24.trans h
      have t25 := t24.trans h
      clear h
      clear HK
      obtain ⟨⟨a0, a1, a2, a3⟩, ⟨x0, x1, x2, x3⟩, q0, q1, q2, q3⟩ := FC.out w25 h25
      have K := refyes_any _ c (some ⟨Be, 0, none⟩) c.wi.toNat (rl c.wi.toNat fun _ => true) an bn w25 (HXX.out w25 h25) HSZ.out H0.out (HBE.out w25 t25) (rl_len _ _) HLA.out HLB.out
      rw [rl_len, YES.out] at K
      have HK := hid K
      clear K
      go_wp2_with fail
      clear a0 a1 a2 a3 x0 x1 x2 x3 q0 q1 q2 q3
      refine (HK.out).mono ?_
      rintro e w26 ⟨rfl, h⟩
      have h26 := h25.trans h
      have t26 := t25.trans h
      clear h
      clear HK
      obtain ⟨⟨a0, a1, a2, a3⟩, ⟨x0, x1, x2, x3⟩, q0, q1, q2, q3⟩ := FC.out w26 h26
      obtain ⟨s0, s1⟩ := FS1.out w26 t26
      go_wp2_with fail
      clear a0 a1 a2 a3 x0 x1 x2 x3 q0 q1 q2 q3
      try rw [hWz]
      try rw [hBs]
      try rw [hWs]
      try clear hWs hWz hBs z0 z1 y0 y1 s0 s1
      refine (same_yes _ _ c w26 (HO.out w26 h26) (HV.out w26 h26) HSZ.out).mono ?_
      rintro e v1 ⟨rfl, h⟩
      have hh1 := h26.trans h
      clear h
      go_wp2_with fail
      refine (awake_any v1).mono ?_
      rintro e v2 ⟨rfl, h⟩
      go_wp2
      go_ret
      exact ⟨rfl, HXN.out.trans (hh1.trans h)⟩
  have hrw := hrow hGf
  have h7 := hrw.len
  have hsh := hshow hGf
  have SH := hid hsh
  have HLEN : Hid ((rowL c.all c.ev.toNat an bn).length ≤ 9223372036854775807) := by unfold Hid; omega
  have HL6 : Hid ((rowL c.all c.ev.toNat an bn).length ≤ 1000000) := by unfold Hid; omega
  have HND : Hid ((rowL c.all c.ev.toNat an bn).Nodup) := hrw.nodup
  have h52 := checkC_52 H0.out
  have HIN : Hid (∀ x ∈ rowL c.all c.ev.toNat an bn, 0 ≤ x ∧ x ≤ 1000000) := fun x hx => by have := hrw.in_ x hx; omega
  obtain rfl := (hv1 hGf).symm
  clear hrw h7 hsh h52 hrow hshow hv1
  have hG1 : decide (G ≠ far) = true := by simpa using hGf
  rw [if_neg hGf] at e1 e2
  rw [hG1] at hg1 hno
  rw [Bool.true_and] at hno
  clear hG1
  by_cases hHf : H = far
  · have hH1 : decide (H ≠ far) = false := by simp [hHf]
    rw [if_pos (Or.inr hHf)] at e4
    rw [hH1] at hg2 hyes
    rw [Bool.false_and] at hyes
    have hH0 : ¬ H < 0 := by rw [hHf]; decide
    rw [if_neg hH0] at e3
    clear hH1 hH0 hv2 hneg m2
    by_cases hG0 : G ≤ 0
    · rw [if_pos hG0] at e3
      have hy : decide (G < 1) = true := by rw [decide_eq_true_eq]; omega
      rw [hy] at hno
      clear hy hG0
      have E1 := hid e1
      have E2 := hid e2
      have E3 := hid e3
      have E4 := hid e4
      have G1 := hid hg1
      have G2 := hid hg2
      have NO := hid hno
      have YES := hid hyes
      clear e1 e2 e3 e4 hg1 hg2 hno hyes
      have K := refasked_any _ c an bn w15 (HXX.out w15 h15) HSZ.out
      rw [HE.out] at K
      have HK := hid K
      clear K
      go_wp2_with fail
      clear a0 a1 a2 a3 x0 x1 x2 x3 q0 q1 q2 q3
      refine (HK.out).mono ?_
      rintro e w16 ⟨rfl, h⟩
      have h16 := h15.trans h
      clear h
      clear HK
      obtain ⟨⟨a0, a1, a2, a3⟩, ⟨x0, x1, x2, x3⟩, q0, q1, q2, q3⟩ := FC.out w16 h16
      have K := gap_any _ c an bn w16 (HO.out w16 h16) HSZ.out
      rw [E1.out] at K
      have HK := hid K
      clear K
      go_wp2_with fail
      clear a0 a1 a2 a3 x0 x1 x2 x3 q0 q1 q2 q3
      refine (HK.out).mono ?_
      rintro e w17 ⟨rfl, h⟩
      have h17 := h16.trans h
      clear h
      clear HK
      obtain ⟨⟨a0, a1, a2, a3⟩, ⟨x0, x1, x2, x3⟩, q0, q1, q2, q3⟩ := FC.out w17 h17
      have K := rowa_any _ c an bn w17 (HO.out w17 h17) HSZ.out
      unfold RowPost at K
      rw [E2.out] at K
      simp only [Int.toNat_natCast] at K
      have HK := hid K
      clear K
      go_wp2_with fail
      clear a0 a1 a2 a3 x0 x1 x2 x3 q0 q1 q2 q3
      refine (HK.out).mono ?_
      rintro e w18 ⟨r9, rfl, h, -, hr9⟩
      have h18 := h17.trans h
      clear h
      obtain ⟨A9, k9, rfl, hI9⟩ := hr9 (by first | rfl | trivial)
      clear HK hr9
      have HI9 : Hid (∀ w', Ext w18 w' → Ints w' A9 (rowL c.all c.ev.toNat an bn)) := fun w' h => hI9.ext h
      have X18 : Ext w18 w18 := Ext.refl _
      clear hI9
      obtain ⟨⟨a0, a1, a2, a3⟩, ⟨x0, x1, x2, x3⟩, q0, q1, q2, q3⟩ := FC.out w18 h18
      have K := before_any _ c an bn w18 (HO.out w18 h18) HSZ.out
      rw [E3.out] at K
      have HK := hid K
      clear K
      go_wp2_with fail
      clear a0 a1 a2 a3 x0 x1 x2 x3 q0 q1 q2 q3
      refine (HK.out).mono ?_
      rintro e w19 ⟨rfl, h⟩
      have h19 := h18.trans h
      have X19 := X18.trans h
      clear h
      clear HK
      obtain ⟨⟨a0, a1, a2, a3⟩, ⟨x0, x1, x2, x3⟩, q0, q1, q2, q3⟩ := FC.out w19 h19
      have K := ask_any _ c an bn w19 (HO.out w19 h19) HSZ.out
      rw [E4.out] at K
      have HK := hid K
      clear K
      go_wp2_with fail
      clear a0 a1 a2 a3 x0 x1 x2 x3 q0 q1 q2 q3
      refine HK.out.mono ?_
      clear HK
      rintro e w20 ⟨rfl, h⟩
      have h20 := h19.trans h
      have X20 := X19.trans h
      clear h
      obtain ⟨Wz, hWz⟩ : ∃ Wz, w20.alloc (.cells #[.int .i64 0, .int .i64 0] 59) = Wz := ⟨_, rfl⟩
      obtain ⟨Bs, hBs⟩ : ∃ Bs, w20.heap.size = Bs := ⟨_, rfl⟩
      obtain ⟨w21, hWs⟩ : ∃ Ws, (Wz.setCell ⟨Bs, 0, none⟩ (.int .i64 (0))).setCell ⟨Bs, 1, none⟩ (.int .i64 (0)) = Ws := ⟨_, rfl⟩
      have z0 : Wz.cell? ⟨Bs, 0, none⟩ = some (.int .i64 0) := by rw [← hWz, ← hBs]; simp [go_sem]
      have z1 : Wz.cell? ⟨Bs, 1, none⟩ = some (.int .i64 0) := by rw [← hWz, ← hBs]; simp [go_sem]
      have y0 : Wz.frozen? ⟨Bs, 0, none⟩ = false := by rw [← hWz, ← hBs]; simp [go_sem]
      have y1 : Wz.frozen? ⟨Bs, 1, none⟩ = false := by rw [← hWz, ← hBs]; simp [go_sem]
      have h : Ext w20 w21 := by rw [← hWs, ← hWz]; exact (((Ext.refl _).alloc _).setCell (by simp [← hBs]) _).setCell (by simp [← hBs]) _
      have h21 := h20.trans h
      have X21 := X20.trans h
      have FS : Hid (∀ w', Ext w21 w' → w'.cell? ⟨Bs, 0, none⟩ = some (.int .i64 (0)) ∧ w'.cell? ⟨Bs, 1, none⟩ = some (.int .i64 (0))) := fun w' h => ⟨h.cell (by rw [← hWs]; simp [go_sem, z0, z1]), h.cell (by rw [← hWs]; simp [go_sem, z0, z1])⟩
      clear h
      obtain ⟨s0, s1⟩ := FS.out w21 (Ext.refl _)
      obtain ⟨⟨a0, a1, a2, a3⟩, ⟨x0, x1, x2, x3⟩, q0, q1, q2, q3⟩ := FC.out w21 h21
      have K := refevery_any _ c w21 (HXX.out w21 h21) HWI.out.1 HWI.out.2
      have HK := hid K
      clear K
      go_wp2_with fail
      clear a0 a1 a2 a3 x0 x1 x2 x3 q0 q1 q2 q3
      try rw [hWz]
      try rw [hBs]
      try rw [hWs]
      try clear hWs hWz hBs z0 z1 y0 y1 s0 s1
      refine HK.out.mono ?_
      rintro e w22 ⟨Be, rfl, -, hBe, h⟩
      have h22 := h21.trans h
      have X22 := X21.trans h
      have FS1 : Hid (∀ w', Ext w22 w' → w'.cell? ⟨Bs, 0, none⟩ = some (.int .i64 (0)) ∧ w'.cell? ⟨Bs, 1, none⟩ = some (.int .i64 (0))) := fun w' k => FS.out w' (h.trans k)
      have HBE : Hid (∀ w', Ext w22 w' → Bools w' (some ⟨Be, 0, none⟩) (rl c.wi.toNat fun _ => true)) := fun w' k => hBe.bools.ext k
      clear h hBe HK FS
      have t22 : Ext w22 w22 := Ext.refl _
      obtain ⟨⟨a0, a1, a2, a3⟩, ⟨x0, x1, x2, x3⟩, q0, q1, q2, q3⟩ := FC.out w22 h22
      have K := refgap_any _ c (some ⟨Be, 0, none⟩) c.wi.toNat (rl c.wi.toNat fun _ => true) an bn w22 (HXX.out w22 h22) HSZ.out H0.out (HBE.out w22 t22) (rl_len _ _) HLA.out HLB.out
      rw [rl_len, G1.out] at K
      have HK := hid K
      clear K
      go_wp2_with fail
      clear a0 a1 a2 a3 x0 x1 x2 x3 q0 q1 q2 q3
      refine (HK.out).mono ?_
      rintro e w23 ⟨rfl, h⟩
      have h23 := h22.trans h
      have X23 := X22.trans h
      have t23 := t22.trans h
      clear h
      clear HK
      obtain ⟨⟨a0, a1, a2, a3⟩, ⟨x0, x1, x2, x3⟩, q0, q1, q2, q3⟩ := FC.out w23 h23
      have K := refgap_any _ c (some ⟨Be, 0, none⟩) c.wi.toNat (rl c.wi.toNat fun _ => true) bn an w23 (HXX.out w23 h23) HSZ.out H0.out (HBE.out w23 t23) (rl_len _ _) HLB.out HLA.out
      rw [rl_len, G2.out] at K
      have HK := hid K
      clear K
      go_wp2_with fail
      clear a0 a1 a2 a3 x0 x1 x2 x3 q0 q1 q2 q3
      refine (HK.out).mono ?_
      rintro e w24 ⟨rfl, h⟩
      have h24 := h23.trans h
      have X24 := X23.trans h
      have t24 := t23.trans h
      clear h
      clear HK
      obtain ⟨⟨a0, a1, a2, a3⟩, ⟨x0, x1, x2, x3⟩, q0, q1, q2, q3⟩ := FC.out w24 h24
      have K := refno_any _ c (some ⟨Be, 0, none⟩) c.wi.toNat (rl c.wi.toNat fun _ => true) an bn w24 (HXX.out w24 h24) HSZ.out H0.out (HBE.out w24 t24) (rl_len _ _) HLA.out HLB.out
      rw [rl_len, NO.out] at K
      have HK := hid K
      clear K
      go_wp2_with fail
      clear a0 a1 a2 a3 x0 x1 x2 x3 q0 q1 q2 q3
      refine (HK.out).mono ?_
      rintro e w25 ⟨rfl, h⟩
      have h25 := h24.trans h
      have X25 := X24.trans h
      have t25 := t24.trans h
      clear h
      clear HK
      obtain ⟨⟨a0, a1, a2, a3⟩, ⟨x0, x1, x2, x3⟩, q0, q1, q2, q3⟩ := FC.out w25 h25
      have K := refyes_any _ c (some ⟨Be, 0, none⟩) c.wi.toNat (rl c.wi.toNat fun _ => true) an bn w25 (HXX.out w25 h25) HSZ.out H0.out (HBE.out w25 t25) (rl_len _ _) HLA.out HLB.out
      rw [rl_len, YES.out] at K
      have HK := hid K
      clear K
      go_wp2_with fail
      clear a0 a1 a2 a3 x0 x1 x2 x3 q0 q1 q2 q3
      refine (HK.out).mono ?_
      rintro e w26 ⟨rfl, h⟩
      have h26 := h25.trans h
      have X26 := X25.trans h
      have t26 := t25.trans h
      clear h
      clear HK
      obtain ⟨⟨a0, a1, a2, a3⟩, ⟨x0, x1, x2, x3⟩, q0, q1, q2, q3⟩ := FC.out w26 h26
      have K := refshows_any _ c an bn A9 k9 (rowL c.all c.ev.toNat an bn) w26 (HXX.out w26 h26) HSZ.out (HI9.out w26 X26) HLEN.out
      rw [SH.out] at K
      have HK := hid K
      clear K
      go_wp2_with fail
      clear a0 a1 a2 a3 x0 x1 x2 x3 q0 q1 q2 q3
      refine (HK.out).mono ?_
      rintro e w27 ⟨rfl, h⟩
      have h27 := h26.trans h
      have X27 := X26.trans h
      have t27 := t26.trans h
      clear h
      clear HK
      obtain ⟨⟨a0, a1, a2, a3⟩, ⟨x0, x1, x2, x3⟩, q0, q1, q2, q3⟩ := FC.out w27 h27
      have K := twice_any A9 k9 (rowL c.all c.ev.toNat an bn) w27 (HI9.out w27 X27) HL6.out HND.out HIN.out
      have HK := hid K
      clear K
      go_wp2_with fail
      clear a0 a1 a2 a3 x0 x1 x2 x3 q0 q1 q2 q3
      refine (HK.out).mono ?_
      rintro e w28 ⟨rfl, h⟩
      have h28 := h27.trans h
      have X28 := X27.trans h
      have t28 := t27.trans h
      clear h
      clear HK
      obtain ⟨⟨a0, a1, a2, a3⟩, ⟨x0, x1, x2, x3⟩, q0, q1, q2, q3⟩ := FC.out w28 h28
      obtain ⟨s0, s1⟩ := FS1.out w28 t28
      go_wp2_with fail
      clear a0 a1 a2 a3 x0 x1 x2 x3 q0 q1 q2 q3
      try rw [hWz]
      try rw [hBs]
      try rw [hWs]
      try clear hWs hWz hBs z0 z1 y0 y1 s0 s1
      refine (same_yes _ _ c w28 (HO.out w28 h28) (HV.out w28 h28) HSZ.out).mono ?_
      rintro e v1 ⟨rfl, h⟩
      have hh1 := h28.trans h
      clear h
      go_wp2_with fail
      refine (awake_any v1).mono ?_
      rintro e v2 ⟨rfl, h⟩
      go_wp2
      go_ret
      exact ⟨rfl, HXN.out.trans (hh1.trans h)⟩
    · rw [if_neg hG0] at e3
      have hy : decide (G < 1) = false := by rw [decide_eq_false_iff_not]; omega
      rw [hy] at hno
      clear hy hG0
      have E1 := hid e1
      have E2 := hid e2
      have E3 := hid e3
      have E4 := hid e4
      have G1 := hid hg1
      have G2 := hid hg2
      have NO := hid hno
      have YES := hid hyes
      clear e1 e2 e3 e4 hg1 hg2 hno hyes
      have K := refasked_any _ c an bn w15 (HXX.out w15 h15) HSZ.out
      rw [HE.out] at K
      have HK := hid K
      clear K
      go_wp2_with fail
      clear a0 a1 a2 a3 x0 x1 x2 x3 q0 q1 q2 q3
      refine (HK.out).mono ?_
      rintro e w16 ⟨rfl, h⟩
      have h16 := h15.trans h
      clear h
      clear HK
      obtain ⟨⟨a0, a1, a2, a3⟩, ⟨x0, x1, x2, x3⟩, q0, q1, q2, q3⟩ := FC.out w16 h16
      have K := gap_any _ c an bn w16 (HO.out w16 h16) HSZ.out
      rw [E1.out] at K
      have HK := hid K
      clear K
      go_wp2_with fail
      clear a0 a1 a2 a3 x0 x1 x2 x3 q0 q1 q2 q3
      refine (HK.out).mono ?_
      rintro e w17 ⟨rfl, h⟩
      have h17 := h16.trans h
      clear h
      clear HK
      obtain ⟨⟨a0, a1, a2, a3⟩, ⟨x0, x1, x2, x3⟩, q0, q1, q2, q3⟩ := FC.out w17 h17
      have K := rowa_any _ c an bn w17 (HO.out w17 h17) HSZ.out
      unfold RowPost at K
      rw [E2.out] at K
      simp only [Int.toNat_natCast] at K
      have HK := hid K
      clear K
      go_wp2_with fail
      clear a0 a1 a2 a3 x0 x1 x2 x3 q0 q1 q2 q3
      refine (HK.out).mono ?_
      rintro e w18 ⟨r9, rfl, h, -, hr9⟩
      have h18 := h17.trans h
      clear h
      obtain ⟨A9, k9, rfl, hI9⟩ := hr9 (by first | rfl | trivial)
      clear HK hr9
      have HI9 : Hid (∀ w', Ext w18 w' → Ints w' A9 (rowL c.all c.ev.toNat an bn)) := fun w' h => hI9.ext h
      have X18 : Ext w18 w18 := Ext.refl _
      clear hI9
      obtain ⟨⟨a0, a1, a2, a3⟩, ⟨x0, x1, x2, x3⟩, q0, q1, q2, q3⟩ := FC.out w18 h18
      have K := before_any _ c an bn w18 (HO.out w18 h18) HSZ.out
      rw [E3.out] at K
      have HK := hid K
      clear K
      go_wp2_with fail
      clear a0 a1 a2 a3 x0 x1 x2 x3 q0 q1 q2 q3
      refine (HK.out).mono ?_
      rintro e w19 ⟨rfl, h⟩
      have h19 := h18.trans h
      have X19 := X18.trans h
      clear h
      clear HK
      obtain ⟨⟨a0, a1, a2, a3⟩, ⟨x0, x1, x2, x3⟩, q0, q1, q2, q3⟩ := FC.out w19 h19
      have K := ask_any _ c an bn w19 (HO.out w19 h19) HSZ.out
      rw [E4.out] at K
      have HK := hid K
      clear K
      go_wp2_with fail
      clear a0 a1 a2 a3 x0 x1 x2 x3 q0 q1 q2 q3
      refine HK.out.mono ?_
      clear HK
      rintro e w20 ⟨rfl, h⟩
      have h20 := h19.trans h
      have X20 := X19.trans h
      clear h
      obtain ⟨Wz, hWz⟩ : ∃ Wz, w20.alloc (.cells #[.int .i64 0, .int .i64 0] 59) = Wz := ⟨_, rfl⟩
      obtain ⟨Bs, hBs⟩ : ∃ Bs, w20.heap.size = Bs := ⟨_, rfl⟩
      obtain ⟨w21, hWs⟩ : ∃ Ws, (Wz.setCell ⟨Bs, 0, none⟩ (.int .i64 (0))).setCell ⟨Bs, 1, none⟩ (.int .i64 (0)) = Ws := ⟨_, rfl⟩
      have z0 : Wz.cell? ⟨Bs, 0, none⟩ = some (.int .i64 0) := by rw [← hWz, ← hBs]; simp [go_sem]
      have z1 : Wz.cell? ⟨Bs, 1, none⟩ = some (.int .i64 0) := by rw [← hWz, ← hBs]; simp [go_sem]
      have y0 : Wz.frozen? ⟨Bs, 0, none⟩ = false := by rw [← hWz, ← hBs]; simp [go_sem]
      have y1 : Wz.frozen? ⟨Bs, 1, none⟩ = false := by rw [← hWz, ← hBs]; simp [go_sem]
      have h : Ext w20 w21 := by rw [← hWs, ← hWz]; exact (((Ext.refl _).alloc _).setCell (by simp [← hBs]) _).setCell (by simp [← hBs]) _
      have h21 := h20.trans h
      have X21 := X20.trans h
      have FS : Hid (∀ w', Ext w21 w' → w'.cell? ⟨Bs, 0, none⟩ = some (.int .i64 (0)) ∧ w'.cell? ⟨Bs, 1, none⟩ = some (.int .i64 (0))) := fun w' h => ⟨h.cell (by rw [← hWs]; simp [go_sem, z0, z1]), h.cell (by rw [← hWs]; simp [go_sem, z0, z1])⟩
      clear h
      obtain ⟨s0, s1⟩ := FS.out w21 (Ext.refl _)
      obtain ⟨⟨a0, a1, a2, a3⟩, ⟨x0, x1, x2, x3⟩, q0, q1, q2, q3⟩ := FC.out w21 h21
      have K := refevery_any _ c w21 (HXX.out w21 h21) HWI.out.1 HWI.out.2
      have HK := hid K
      clear K
      go_wp2_with fail
      clear a0 a1 a2 a3 x0 x1 x2 x3 q0 q1 q2 q3
      try rw [hWz]
      try rw [hBs]
      try rw [hWs]
      try clear hWs hWz hBs z0 z1 y0 y1 s0 s1
      refine HK.out.mono ?_
      rintro e w22 ⟨Be, rfl, -, hBe, h⟩
      have h22 := h21.trans h
      have X22 := X21.trans h
      have FS1 : Hid (∀ w', Ext w22 w' → w'.cell? ⟨Bs, 0, none⟩ = some (.int .i64 (0)) ∧ w'.cell? ⟨Bs, 1, none⟩ = some (.int .i64 (0))) := fun w' k => FS.out w' (h.trans k)
      have HBE : Hid (∀ w', Ext w22 w' → Bools w' (some ⟨Be, 0, none⟩) (rl c.wi.toNat fun _ => true)) := fun w' k => hBe.bools.ext k
      clear h hBe HK FS
      have t22 : Ext w22 w22 := Ext.refl _
      obtain ⟨⟨a0, a1, a2, a3⟩, ⟨x0, x1, x2, x3⟩, q0, q1, q2, q3⟩ := FC.out w22 h22
      have K := refgap_any _ c (some ⟨Be, 0, none⟩) c.wi.toNat (rl c.wi.toNat fun _ => true) an bn w22 (HXX.out w22 h22) HSZ.out H0.out (HBE.out w22 t22) (rl_len _ _) HLA.out HLB.out
      rw [rl_len, G1.out] at K
      have HK := hid K
      clear K
      go_wp2_with fail
      clear a0 a1 a2 a3 x0 x1 x2 x3 q0 q1 q2 q3
      refine (HK.out).mono ?_
      rintro e w23 ⟨rfl, h⟩
      have h23 := h22.trans h
      have X23 := X22.trans h
      have t23 := t22.trans h
      clear h
      clear HK
      obtain ⟨⟨a0, a1, a2, a3⟩, ⟨x0, x1, x2, x3⟩, q0, q1, q2, q3⟩ := FC.out w23 h23
      have K := refgap_any _ c (some ⟨Be, 0, none⟩) c.wi.toNat (rl c.wi.toNat fun _ => true) bn an w23 (HXX.out w23 h23) HSZ.out H0.out (HBE.out w23 t23) (rl_len _ _) HLB.out HLA.out
      rw [rl_len, G2.out] at K
      have HK := hid K
      clear K
      go_wp2_with fail
      clear a0 a1 a2 a3 x0 x1 x2 x3 q0 q1 q2 q3
      refine (HK.out).mono ?_
      rintro e w24 ⟨rfl, h⟩
      have h24 := h23.trans h
      have X24 := X23.trans h
      have t24 := t23.trans h
      clear h
      clear HK
      obtain ⟨⟨a0, a1, a2, a3⟩, ⟨x0, x1, x2, x3⟩, q0, q1, q2, q3⟩ := FC.out w24 h24
      have K := refno_any _ c (some ⟨Be, 0, none⟩) c.wi.toNat (rl c.wi.toNat fun _ => true) an bn w24 (HXX.out w24 h24) HSZ.out H0.out (HBE.out w24 t24) (rl_len _ _) HLA.out HLB.out
      rw [rl_len, NO.out] at K
      have HK := hid K
      clear K
      go_wp2_with fail
      clear a0 a1 a2 a3 x0 x1 x2 x3 q0 q1 q2 q3
      refine (HK.out).mono ?_
      rintro e w25 ⟨rfl, h⟩
      have h25 := h24.trans h
      have X25 := X24.trans h
      have t25 := t24.trans h
      clear h
      clear HK
      obtain ⟨⟨a0, a1, a2, a3⟩, ⟨x0, x1, x2, x3⟩, q0, q1, q2, q3⟩ := FC.out w25 h25
      have K := refyes_any _ c (some ⟨Be, 0, none⟩) c.wi.toNat (rl c.wi.toNat fun _ => true) an bn w25 (HXX.out w25 h25) HSZ.out H0.out (HBE.out w25 t25) (rl_len _ _) HLA.out HLB.out
      rw [rl_len, YES.out] at K
      have HK := hid K
      clear K
      go_wp2_with fail
      clear a0 a1 a2 a3 x0 x1 x2 x3 q0 q1 q2 q3
      refine (HK.out).mono ?_
      rintro e w26 ⟨rfl, h⟩
      have h26 := h25.trans h
      have X26 := X25.trans h
      have t26 := t25.trans h
      clear h
      clear HK
      obtain ⟨⟨a0, a1, a2, a3⟩, ⟨x0, x1, x2, x3⟩, q0, q1, q2, q3⟩ := FC.out w26 h26
      have K := refshows_any _ c an bn A9 k9 (rowL c.all c.ev.toNat an bn) w26 (HXX.out w26 h26) HSZ.out (HI9.out w26 X26) HLEN.out
      rw [SH.out] at K
      have HK := hid K
      clear K
      go_wp2_with fail
      clear a0 a1 a2 a3 x0 x1 x2 x3 q0 q1 q2 q3
      refine (HK.out).mono ?_
      rintro e w27 ⟨rfl, h⟩
      have h27 := h26.trans h
      have X27 := X26.trans h
      have t27 := t26.trans h
      clear h
      clear HK
      obtain ⟨⟨a0, a1, a2, a3⟩, ⟨x0, x1, x2, x3⟩, q0, q1, q2, q3⟩ := FC.out w27 h27
      have K := twice_any A9 k9 (rowL c.all c.ev.toNat an bn) w27 (HI9.out w27 X27) HL6.out HND.out HIN.out
      have HK := hid K
      clear K
      go_wp2_with fail
      clear a0 a1 a2 a3 x0 x1 x2 x3 q0 q1 q2 q3
      refine (HK.out).mono ?_
      rintro e w28 ⟨rfl, h⟩
      have h28 := h27.trans h
      have X28 := X27.trans h
      have t28 := t27.trans h
      clear h
      clear HK
      obtain ⟨⟨a0, a1, a2, a3⟩, ⟨x0, x1, x2, x3⟩, q0, q1, q2, q3⟩ := FC.out w28 h28
      obtain ⟨s0, s1⟩ := FS1.out w28 t28
      go_wp2_with fail
      clear a0 a1 a2 a3 x0 x1 x2 x3 q0 q1 q2 q3
      try rw [hWz]
      try rw [hBs]
      try rw [hWs]
      try clear hWs hWz hBs z0 z1 y0 y1 s0 s1
      refine (same_yes _ _ c w28 (HO.out w28 h28) (HV.out w28 h28) HSZ.out).mono ?_
      rintro e v1 ⟨rfl, h⟩
      have hh1 := h28.trans h
      clear h
      go_wp2_with fail
      refine (awake_any v1).mono ?_
      rintro e v2 ⟨rfl, h⟩
      go_wp2
      go_ret
      exact ⟨rfl, HXN.out.trans (hh1.trans h)⟩
  have hH1 : decide (H ≠ far) = true := by simpa using hHf
  rw [if_neg (by simp [hGf, hHf])] at e4
  rw [hH1] at hg2 hyes
  rw [Bool.true_and] at hyes
  obtain rfl := (hv2 hHf).symm
  clear hH1 hv2 hHf
  by_cases hH : H < 0
  · by_cases hG0 : G ≤ 0
    · rw [if_pos hH] at e3
      have hy : decide (G < 1) = true := by rw [decide_eq_true_eq]; omega
      rw [hy] at hno
      clear hy
      have hy : decide (H ≤ -1) = true := by rw [decide_eq_true_eq]; omega
      rw [hy] at hyes
      clear hy hH hG0
      have E1 := hid e1
      have E2 := hid e2
      have E3 := hid e3
      have E4 := hid e4
      have G1 := hid hg1
      have G2 := hid hg2
      have NO := hid hno
      have YES := hid hyes
      clear e1 e2 e3 e4 hg1 hg2 hno hyes
      have K := refasked_any _ c an bn w15 (HXX.out w15 h15) HSZ.out
      rw [HE.out] at K
      have HK := hid K
      clear K
      go_wp2_with fail
      clear a0 a1 a2 a3 x0 x1 x2 x3 q0 q1 q2 q3
      refine (HK.out).mono ?_
      rintro e w16 ⟨rfl, h⟩
      have h16 := h15.trans h
      clear h
      clear HK
      obtain ⟨⟨a0, a1, a2, a3⟩, ⟨x0, x1, x2, x3⟩, q0, q1, q2, q3⟩ := FC.out w16 h16
      have K := gap_any _ c an bn w16 (HO.out w16 h16) HSZ.out
      rw [E1.out] at K
      have HK := hid K
      clear K
      go_wp2_with fail
      clear a0 a1 a2 a3 x0 x1 x2 x3 q0 q1 q2 q3
      refine (HK.out).mono ?_
      rintro e w17 ⟨rfl, h⟩
      have h17 := h16.trans h
      clear h
      clear HK
      obtain ⟨⟨a0, a1, a2, a3⟩, ⟨x0, x1, x2, x3⟩, q0, q1, q2, q3⟩ := FC.out w17 h17
      have K := rowa_any _ c an bn w17 (HO.out w17 h17) HSZ.out
      unfold RowPost at K
      rw [E2.out] at K
      simp only [Int.toNat_natCast] at K
      have HK := hid K
      clear K
      go_wp2_with fail
      clear a0 a1 a2 a3 x0 x1 x2 x3 q0 q1 q2 q3
      refine (HK.out).mono ?_
      rintro e w18 ⟨r9, rfl, h, -, hr9⟩
      have h18 := h17.trans h
      clear h
      obtain ⟨A9, k9, rfl, hI9⟩ := hr9 (by first | rfl | trivial)
      clear HK hr9
      have HI9 : Hid (∀ w', Ext w18 w' → Ints w' A9 (rowL c.all c.ev.toNat an bn)) := fun w' h => hI9.ext h
      have X18 : Ext w18 w18 := Ext.refl _
      clear hI9
      obtain ⟨⟨a0, a1, a2, a3⟩, ⟨x0, x1, x2, x3⟩, q0, q1, q2, q3⟩ := FC.out w18 h18
      have K := before_any _ c an bn w18 (HO.out w18 h18) HSZ.out
      rw [E3.out] at K
      have HK := hid K
      clear K
      go_wp2_with fail
      clear a0 a1 a2 a3 x0 x1 x2 x3 q0 q1 q2 q3
      refine (HK.out).mono ?_
      rintro e w19 ⟨rfl, h⟩
      have h19 := h18.trans h
      have X19 := X18.trans h
      clear h
      clear HK
      obtain ⟨⟨a0, a1, a2, a3⟩, ⟨x0, x1, x2, x3⟩, q0, q1, q2, q3⟩ := FC.out w19 h19
      have K := ask_any _ c an bn w19 (HO.out w19 h19) HSZ.out
      rw [E4.out] at K
      have HK := hid K
      clear K
      go_wp2_with fail
      clear a0 a1 a2 a3 x0 x1 x2 x3 q0 q1 q2 q3
      refine HK.out.mono ?_
      clear HK
      rintro e w20 ⟨rfl, h⟩
      have h20 := h19.trans h
      have X20 := X19.trans h
      clear h
      obtain ⟨Wz, hWz⟩ : ∃ Wz, w20.alloc (.cells #[.int .i64 0, .int .i64 0] 59) = Wz := ⟨_, rfl⟩
      obtain ⟨Bs, hBs⟩ : ∃ Bs, w20.heap.size = Bs := ⟨_, rfl⟩
      obtain ⟨w21, hWs⟩ : ∃ Ws, (Wz.setCell ⟨Bs, 0, none⟩ (.int .i64 (-H))).setCell ⟨Bs, 1, none⟩ (.int .i64 (G)) = Ws := ⟨_, rfl⟩
      have z0 : Wz.cell? ⟨Bs, 0, none⟩ = some (.int .i64 0) := by rw [← hWz, ← hBs]; simp [go_sem]
      have z1 : Wz.cell? ⟨Bs, 1, none⟩ = some (.int .i64 0) := by rw [← hWz, ← hBs]; simp [go_sem]
      have y0 : Wz.frozen? ⟨Bs, 0, none⟩ = false := by rw [← hWz, ← hBs]; simp [go_sem]
      have y1 : Wz.frozen? ⟨Bs, 1, none⟩ = false := by rw [← hWz, ← hBs]; simp [go_sem]
      have h : Ext w20 w21 := by rw [← hWs, ← hWz]; exact (((Ext.refl _).alloc _).setCell (by simp [← hBs]) _).setCell (by simp [← hBs]) _
      have h21 := h20.trans h
      have X21 := X20.trans h
      have FS : Hid (∀ w', Ext w21 w' → w'.cell? ⟨Bs, 0, none⟩ = some (.int .i64 (-H)) ∧ w'.cell? ⟨Bs, 1, none⟩ = some (.int .i64 (G))) := fun w' h => ⟨h.cell (by rw [← hWs]; simp [go_sem, z0, z1]), h.cell (by rw [← hWs]; simp [go_sem, z0, z1])⟩
      clear h
      obtain ⟨s0, s1⟩ := FS.out w21 (Ext.refl _)
      obtain ⟨⟨a0, a1, a2, a3⟩, ⟨x0, x1, x2, x3⟩, q0, q1, q2, q3⟩ := FC.out w21 h21
      have K := refevery_any _ c w21 (HXX.out w21 h21) HWI.out.1 HWI.out.2
      have HK := hid K
      clear K
      go_wp2_with fail
      clear a0 a1 a2 a3 x0 x1 x2 x3 q0 q1 q2 q3
      try rw [hWz]
      try rw [hBs]
      try rw [hWs]
      try clear hWs hWz hBs z0 z1 y0 y1 s0 s1
      refine HK.out.mono ?_
      rintro e w22 ⟨Be, rfl, -, hBe, h⟩
      have h22 := h21.trans h
      have X22 := X21.trans h
      have FS1 : Hid (∀ w', Ext w22 w' → w'.cell? ⟨Bs, 0, none⟩ = some (.int .i64 (-H)) ∧ w'.cell? ⟨Bs, 1, none⟩ = some (.int .i64 (G))) := fun w' k => FS.out w' (h.trans k)
      have HBE : Hid (∀ w', Ext w22 w' → Bools w' (some ⟨Be, 0, none⟩) (rl c.wi.toNat fun _ => true)) := fun w' k => hBe.bools.ext k
      clear h hBe HK FS
      have t22 : Ext w22 w22 := Ext.refl _
      obtain ⟨⟨a0, a1, a2, a3⟩, ⟨x0, x1, x2, x3⟩, q0, q1, q2, q3⟩ := FC.out w22 h22
      have K := refgap_any _ c (some ⟨Be, 0, none⟩) c.wi.toNat (rl c.wi.toNat fun _ => true) an bn w22 (HXX.out w22 h22) HSZ.out H0.out (HBE.out w22 t22) (rl_len _ _) HLA.out HLB.out
      rw [rl_len, G1.out] at K
      have HK := hid K
      clear K
      go_wp2_with fail
      clear a0 a1 a2 a3 x0 x1 x2 x3 q0 q1 q2 q3
      refine (HK.out).mono ?_
      rintro e w23 ⟨rfl, h⟩
      have h23 := h22.trans h
      have X23 := X22.trans h
      have t23 := t22.trans h
      clear h
      clear HK
      obtain ⟨⟨a0, a1, a2, a3⟩, ⟨x0, x1, x2, x3⟩, q0, q1, q2, q3⟩ := FC.out w23 h23
      have K := refgap_any _ c (some ⟨Be, 0, none⟩) c.wi.toNat (rl c.wi.toNat fun _ => true) bn an w23 (HXX.out w23 h23) HSZ.out H0.out (HBE.out w23 t23) (rl_len _ _) HLB.out HLA.out
      rw [rl_len, G2.out] at K
      have HK := hid K
      clear K
      go_wp2_with fail
      clear a0 a1 a2 a3 x0 x1 x2 x3 q0 q1 q2 q3
      refine (HK.out).mono ?_
      rintro e w24 ⟨rfl, h⟩
      have h24 := h23.trans h
      have X24 := X23.trans h
      have t24 := t23.trans h
      clear h
      clear HK
      obtain ⟨⟨a0, a1, a2, a3⟩, ⟨x0, x1, x2, x3⟩, q0, q1, q2, q3⟩ := FC.out w24 h24
      have K := refno_any _ c (some ⟨Be, 0, none⟩) c.wi.toNat (rl c.wi.toNat fun _ => true) an bn w24 (HXX.out w24 h24) HSZ.out H0.out (HBE.out w24 t24) (rl_len _ _) HLA.out HLB.out
      rw [rl_len, NO.out] at K
      have HK := hid K
      clear K
      go_wp2_with fail
      clear a0 a1 a2 a3 x0 x1 x2 x3 q0 q1 q2 q3
      refine (HK.out).mono ?_
      rintro e w25 ⟨rfl, h⟩
      have h25 := h24.trans h
      have X25 := X24.trans h
      have t25 := t24.trans h
      clear h
      clear HK
      obtain ⟨⟨a0, a1, a2, a3⟩, ⟨x0, x1, x2, x3⟩, q0, q1, q2, q3⟩ := FC.out w25 h25
      have K := refyes_any _ c (some ⟨Be, 0, none⟩) c.wi.toNat (rl c.wi.toNat fun _ => true) an bn w25 (HXX.out w25 h25) HSZ.out H0.out (HBE.out w25 t25) (rl_len _ _) HLA.out HLB.out
      rw [rl_len, YES.out] at K
      have HK := hid K
      clear K
      go_wp2_with fail
      clear a0 a1 a2 a3 x0 x1 x2 x3 q0 q1 q2 q3
      refine (HK.out).mono ?_
      rintro e w26 ⟨rfl, h⟩
      have h26 := h25.trans h
      have X26 := X25.trans h
      have t26 := t25.trans h
      clear h
      clear HK
      obtain ⟨⟨a0, a1, a2, a3⟩, ⟨x0, x1, x2, x3⟩, q0, q1, q2, q3⟩ := FC.out w26 h26
      have K := refshows_any _ c an bn A9 k9 (rowL c.all c.ev.toNat an bn) w26 (HXX.out w26 h26) HSZ.out (HI9.out w26 X26) HLEN.out
      rw [SH.out] at K
      have HK := hid K
      clear K
      go_wp2_with fail
      clear a0 a1 a2 a3 x0 x1 x2 x3 q0 q1 q2 q3
      refine (HK.out).mono ?_
      rintro e w27 ⟨rfl, h⟩
      have h27 := h26.trans h
      have X27 := X26.trans h
      have t27 := t26.trans h
      clear h
      clear HK
      obtain ⟨⟨a0, a1, a2, a3⟩, ⟨x0, x1, x2, x3⟩, q0, q1, q2, q3⟩ := FC.out w27 h27
      have K := twice_any A9 k9 (rowL c.all c.ev.toNat an bn) w27 (HI9.out w27 X27) HL6.out HND.out HIN.out
      have HK := hid K
      clear K
      go_wp2_with fail
      clear a0 a1 a2 a3 x0 x1 x2 x3 q0 q1 q2 q3
      refine (HK.out).mono ?_
      rintro e w28 ⟨rfl, h⟩
      have h28 := h27.trans h
      have X28 := X27.trans h
      have t28 := t27.trans h
      clear h
      clear HK
      obtain ⟨⟨a0, a1, a2, a3⟩, ⟨x0, x1, x2, x3⟩, q0, q1, q2, q3⟩ := FC.out w28 h28
      obtain ⟨s0, s1⟩ := FS1.out w28 t28
      go_wp2_with fail
      clear a0 a1 a2 a3 x0 x1 x2 x3 q0 q1 q2 q3
      try rw [hWz]
      try rw [hBs]
      try rw [hWs]
      try clear hWs hWz hBs z0 z1 y0 y1 s0 s1
      refine (same_yes _ _ c w28 (HO.out w28 h28) (HV.out w28 h28) HSZ.out).mono ?_
      rintro e v1 ⟨rfl, h⟩
      have hh1 := h28.trans h
      clear h
      go_wp2_with fail
      refine (awake_any v1).mono ?_
      rintro e v2 ⟨rfl, h⟩
      go_wp2
      go_ret
      exact ⟨rfl, HXN.out.trans (hh1.trans h)⟩
    · rw [if_pos hH] at e3
      have hy : decide (G < 1) = false := by rw [decide_eq_false_iff_not]; omega
      rw [hy] at hno
      clear hy
      have hy : decide (H ≤ -1) = true := by rw [decide_eq_true_eq]; omega
      rw [hy] at hyes
      clear hy hH hG0
      have E1 := hid e1
      have E2 := hid e2
      have E3 := hid e3
      have E4 := hid e4
      have G1 := hid hg1
      have G2 := hid hg2
      have NO := hid hno
      have YES := hid hyes
      clear e1 e2 e3 e4 hg1 hg2 hno hyes
      have K := refasked_any _ c an bn w15 (HXX.out w15 h15) HSZ.out
      rw [HE.out] at K
      have HK := hid K
      clear K
      go_wp2_with fail
      clear a0 a1 a2 a3 x0 x1 x2 x3 q0 q1 q2 q3
      refine (HK.out).mono ?_
      rintro e w16 ⟨rfl, h⟩
      have h16 := h15.trans h
      clear h
      clear HK
      obtain ⟨⟨a0, a1, a2, a3⟩, ⟨x0, x1, x2, x3⟩, q0, q1, q2, q3⟩ := FC.out w16 h16
      have K := gap_any _ c an bn w16 (HO.out w16 h16) HSZ.out
      rw [E1.out] at K
      have HK := hid K
      clear K
      go_wp2_with fail
      clear a0 a1 a2 a3 x0 x1 x2 x3 q0 q1 q2 q3
      refine (HK.out).mono ?_
      rintro e w17 ⟨rfl, h⟩
      have h17 := h16.trans h
      clear h
      clear HK
      obtain ⟨⟨a0, a1, a2, a3⟩, ⟨x0, x1, x2, x3⟩, q0, q1, q2, q3⟩ := FC.out w17 h17
      have K := rowa_any _ c an bn w17 (HO.out w17 h17) HSZ.out
      unfold RowPost at K
      rw [E2.out] at K
      simp only [Int.toNat_natCast] at K
      have HK := hid K
      clear K
      go_wp2_with fail
      clear a0 a1 a2 a3 x0 x1 x2 x3 q0 q1 q2 q3
      refine (HK.out).mono ?_
      rintro e w18 ⟨r9, rfl, h, -, hr9⟩
      have h18 := h17.trans h
      clear h
      obtain ⟨A9, k9, rfl, hI9⟩ := hr9 (by first | rfl | trivial)
      clear HK hr9
      have HI9 : Hid (∀ w', Ext w18 w' → Ints w' A9 (rowL c.all c.ev.toNat an bn)) := fun w' h => hI9.ext h
      have X18 : Ext w18 w18 := Ext.refl _
      clear hI9
      obtain ⟨⟨a0, a1, a2, a3⟩, ⟨x0, x1, x2, x3⟩, q0, q1, q2, q3⟩ := FC.out w18 h18
      have K := before_any _ c an bn w18 (HO.out w18 h18) HSZ.out
      rw [E3.out] at K
      have HK := hid K
      clear K
      go_wp2_with fail
      clear a0 a1 a2 a3 x0 x1 x2 x3 q0 q1 q2 q3
      refine (HK.out).mono ?_
      rintro e w19 ⟨rfl, h⟩
      have h19 := h18.trans h
      have X19 := X18.trans h
      clear h
      clear HK
      obtain ⟨⟨a0, a1, a2, a3⟩, ⟨x0, x1, x2, x3⟩, q0, q1, q2, q3⟩ := FC.out w19 h19
      have K := ask_any _ c an bn w19 (HO.out w19 h19) HSZ.out
      rw [E4.out] at K
      have HK := hid K
      clear K
      go_wp2_with fail
      clear a0 a1 a2 a3 x0 x1 x2 x3 q0 q1 q2 q3
      refine HK.out.mono ?_
      clear HK
      rintro e w20 ⟨rfl, h⟩
      have h20 := h19.trans h
      have X20 := X19.trans h
      clear h
      obtain ⟨Wz, hWz⟩ : ∃ Wz, w20.alloc (.cells #[.int .i64 0, .int .i64 0] 59) = Wz := ⟨_, rfl⟩
      obtain ⟨Bs, hBs⟩ : ∃ Bs, w20.heap.size = Bs := ⟨_, rfl⟩
      obtain ⟨w21, hWs⟩ : ∃ Ws, (Wz.setCell ⟨Bs, 0, none⟩ (.int .i64 (-H))).setCell ⟨Bs, 1, none⟩ (.int .i64 (G)) = Ws := ⟨_, rfl⟩
      have z0 : Wz.cell? ⟨Bs, 0, none⟩ = some (.int .i64 0) := by rw [← hWz, ← hBs]; simp [go_sem]
      have z1 : Wz.cell? ⟨Bs, 1, none⟩ = some (.int .i64 0) := by rw [← hWz, ← hBs]; simp [go_sem]
      have y0 : Wz.frozen? ⟨Bs, 0, none⟩ = false := by rw [← hWz, ← hBs]; simp [go_sem]
      have y1 : Wz.frozen? ⟨Bs, 1, none⟩ = false := by rw [← hWz, ← hBs]; simp [go_sem]
      have h : Ext w20 w21 := by rw [← hWs, ← hWz]; exact (((Ext.refl _).alloc _).setCell (by simp [← hBs]) _).setCell (by simp [← hBs]) _
      have h21 := h20.trans h
      have X21 := X20.trans h
      have FS : Hid (∀ w', Ext w21 w' → w'.cell? ⟨Bs, 0, none⟩ = some (.int .i64 (-H)) ∧ w'.cell? ⟨Bs, 1, none⟩ = some (.int .i64 (G))) := fun w' h => ⟨h.cell (by rw [← hWs]; simp [go_sem, z0, z1]), h.cell (by rw [← hWs]; simp [go_sem, z0, z1])⟩
      clear h
      obtain ⟨s0, s1⟩ := FS.out w21 (Ext.refl _)
      obtain ⟨⟨a0, a1, a2, a3⟩, ⟨x0, x1, x2, x3⟩, q0, q1, q2, q3⟩ := FC.out w21 h21
      have K := refevery_any _ c w21 (HXX.out w21 h21) HWI.out.1 HWI.out.2
      have HK := hid K
      clear K
      go_wp2_with fail
      clear a0 a1 a2 a3 x0 x1 x2 x3 q0 q1 q2 q3
      try rw [hWz]
      try rw [hBs]
      try rw [hWs]
      try clear hWs hWz hBs z0 z1 y0 y1 s0 s1
      refine HK.out.mono ?_
      rintro e w22 ⟨Be, rfl, -, hBe, h⟩
      have h22 := h21.trans h
      have X22 := X21.trans h
      have FS1 : Hid (∀ w', Ext w22 w' → w'.cell? ⟨Bs, 0, none⟩ = some (.int .i64 (-H)) ∧ w'.cell? ⟨Bs, 1, none⟩ = some (.int .i64 (G))) := fun w' k => FS.out w' (h.trans k)
      have HBE : Hid (∀ w', Ext w22 w' → Bools w' (some ⟨Be, 0, none⟩) (rl c.wi.toNat fun _ => true)) := fun w' k => hBe.bools.ext k
      clear h hBe HK FS
      have t22 : Ext w22 w22 := Ext.refl _
      obtain ⟨⟨a0, a1, a2, a3⟩, ⟨x0, x1, x2, x3⟩, q0, q1, q2, q3⟩ := FC.out w22 h22
      have K := refgap_any _ c (some ⟨Be, 0, none⟩) c.wi.toNat (rl c.wi.toNat fun _ => true) an bn w22 (HXX.out w22 h22) HSZ.out H0.out (HBE.out w22 t22) (rl_len _ _) HLA.out HLB.out
      rw [rl_len, G1.out] at K
      have HK := hid K
      clear K
      go_wp2_with fail
      clear a0 a1 a2 a3 x0 x1 x2 x3 q0 q1 q2 q3
      refine (HK.out).mono ?_
      rintro e w23 ⟨rfl, h⟩
      have h23 := h22.trans h
      have X23 := X22.trans h
      have t23 := t22.trans h
      clear h
      clear HK
      obtain ⟨⟨a0, a1, a2, a3⟩, ⟨x0, x1, x2, x3⟩, q0, q1, q2, q3⟩ := FC.out w23 h23
      have K := refgap_any _ c (some ⟨Be, 0, none⟩) c.wi.toNat (rl c.wi.toNat fun _ => true) bn an w23 (HXX.out w23 h23) HSZ.out H0.out (HBE.out w23 t23) (rl_len _ _) HLB.out HLA.out
      rw [rl_len, G2.out] at K
      have HK := hid K
      clear K
      go_wp2_with fail
      clear a0 a1 a2 a3 x0 x1 x2 x3 q0 q1 q2 q3
      refine (HK.out).mono ?_
      rintro e w24 ⟨rfl, h⟩
      have h24 := h23.trans h
      have X24 := X23.trans h
      have t24 := t23.trans h
      clear h
      clear HK
      obtain ⟨⟨a0, a1, a2, a3⟩, ⟨x0, x1, x2, x3⟩, q0, q1, q2, q3⟩ := FC.out w24 h24
      have K := refno_any _ c (some ⟨Be, 0, none⟩) c.wi.toNat (rl c.wi.toNat fun _ => true) an bn w24 (HXX.out w24 h24) HSZ.out H0.out (HBE.out w24 t24) (rl_len _ _) HLA.out HLB.out
      rw [rl_len, NO.out] at K
      have HK := hid K
      clear K
      go_wp2_with fail
      clear a0 a1 a2 a3 x0 x1 x2 x3 q0 q1 q2 q3
      refine (HK.out).mono ?_
      rintro e w25 ⟨rfl, h⟩
      have h25 := h24.trans h
      have X25 := X24.trans h
      have t25 := t24.trans h
      clear h
      clear HK
      obtain ⟨⟨a0, a1, a2, a3⟩, ⟨x0, x1, x2, x3⟩, q0, q1, q2, q3⟩ := FC.out w25 h25
      have K := refyes_any _ c (some ⟨Be, 0, none⟩) c.wi.toNat (rl c.wi.toNat fun _ => true) an bn w25 (HXX.out w25 h25) HSZ.out H0.out (HBE.out w25 t25) (rl_len _ _) HLA.out HLB.out
      rw [rl_len, YES.out] at K
      have HK := hid K
      clear K
      go_wp2_with fail
      clear a0 a1 a2 a3 x0 x1 x2 x3 q0 q1 q2 q3
      refine (HK.out).mono ?_
      rintro e w26 ⟨rfl, h⟩
      have h26 := h25.trans h
      have X26 := X25.trans h
      have t26 := t25.trans h
      clear h
      clear HK
      obtain ⟨⟨a0, a1, a2, a3⟩, ⟨x0, x1, x2, x3⟩, q0, q1, q2, q3⟩ := FC.out w26 h26
      have K := refshows_any _ c an bn A9 k9 (rowL c.all c.ev.toNat an bn) w26 (HXX.out w26 h26) HSZ.out (HI9.out w26 X26) HLEN.out
      rw [SH.out] at K
      have HK := hid K
      clear K
      go_wp2_with fail
      clear a0 a1 a2 a3 x0 x1 x2 x3 q0 q1 q2 q3
      refine (HK.out).mono ?_
      rintro e w27 ⟨rfl, h⟩
      have h27 := h26.trans h
      have X27 := X26.trans h
      have t27 := t26.trans h
      clear h
      clear HK
      obtain ⟨⟨a0, a1, a2, a3⟩, ⟨x0, x1, x2, x3⟩, q0, q1, q2, q3⟩ := FC.out w27 h27
      have K := twice_any A9 k9 (rowL c.all c.ev.toNat an bn) w27 (HI9.out w27 X27) HL6.out HND.out HIN.out
      have HK := hid K
      clear K
      go_wp2_with fail
      clear a0 a1 a2 a3 x0 x1 x2 x3 q0 q1 q2 q3
      refine (HK.out).mono ?_
      rintro e w28 ⟨rfl, h⟩
      have h28 := h27.trans h
      have X28 := X27.trans h
      have t28 := t27.trans h
      clear h
      clear HK
      obtain ⟨⟨a0, a1, a2, a3⟩, ⟨x0, x1, x2, x3⟩, q0, q1, q2, q3⟩ := FC.out w28 h28
      obtain ⟨s0, s1⟩ := FS1.out w28 t28
      go_wp2_with fail
      clear a0 a1 a2 a3 x0 x1 x2 x3 q0 q1 q2 q3
      try rw [hWz]
      try rw [hBs]
      try rw [hWs]
      try clear hWs hWz hBs z0 z1 y0 y1 s0 s1
      refine (same_yes _ _ c w28 (HO.out w28 h28) (HV.out w28 h28) HSZ.out).mono ?_
      rintro e v1 ⟨rfl, h⟩
      have hh1 := h28.trans h
      clear h
      go_wp2_with fail
      refine (awake_any v1).mono ?_
      rintro e v2 ⟨rfl, h⟩
      go_wp2
      go_ret
      exact ⟨rfl, HXN.out.trans (hh1.trans h)⟩
  · by_cases hG0 : G ≤ 0
    · rw [if_neg hH] at e3
      rw [if_pos hG0] at e3
      have hy : decide (G < 1) = true := by rw [decide_eq_true_eq]; omega
      rw [hy] at hno
      clear hy
      have hy : decide (H ≤ -1) = false := by rw [decide_eq_false_iff_not]; omega
      rw [hy] at hyes
      clear hy hH hG0
      have E1 := hid e1
      have E2 := hid e2
      have E3 := hid e3
      have E4 := hid e4
      have G1 := hid hg1
      have G2 := hid hg2
      have NO := hid hno
      have YES := hid hyes
      clear e1 e2 e3 e4 hg1 hg2 hno hyes
      have K := refasked_any _ c an bn w15 (HXX.out w15 h15) HSZ.out
      rw [HE.out] at K
      have HK := hid K
      clear K
      go_wp2_with fail
      clear a0 a1 a2 a3 x0 x1 x2 x3 q0 q1 q2 q3
      refine (HK.out).mono ?_
      rintro e w16 ⟨rfl, h⟩
      have h16 := h15.trans h
      clear h
      clear HK
      obtain ⟨⟨a0, a1, a2, a3⟩, ⟨x0, x1, x2, x3⟩, q0, q1, q2, q3⟩ := FC.out w16 h16
      have K := gap_any _ c an bn w16 (HO.out w16 h16) HSZ.out
      rw [E1.out] at K
      have HK := hid K
      clear K
      go_wp2_with fail
      clear a0 a1 a2 a3 x0 x1 x2 x3 q0 q1 q2 q3
      refine (HK.out).mono ?_
      rintro e w17 ⟨rfl, h⟩
      have h17 := h16.trans h
      clear h
      clear HK
      obtain ⟨⟨a0, a1, a2, a3⟩, ⟨x0, x1, x2, x3⟩, q0, q1, q2, q3⟩ := FC.out w17 h17
      have K := rowa_any _ c an bn w17 (HO.out w17 h17) HSZ.out
      unfold RowPost at K
      rw [E2.out] at K
      simp only [Int.toNat_natCast] at K
      have HK := hid K
      clear K
      go_wp2_with fail
      clear a0 a1 a2 a3 x0 x1 x2 x3 q0 q1 q2 q3
      refine (HK.out).mono ?_
      rintro e w18 ⟨r9, rfl, h, -, hr9⟩
      have h18 := h17.trans h
      clear h
      obtain ⟨A9, k9, rfl, hI9⟩ := hr9 (by first | rfl | trivial)
      clear HK hr9
      have HI9 : Hid (∀ w', Ext w18 w' → Ints w' A9 (rowL c.all c.ev.toNat an bn)) := fun w' h => hI9.ext h
      have X18 : Ext w18 w18 := Ext.refl _
      clear hI9
      obtain ⟨⟨a0, a1, a2, a3⟩, ⟨x0, x1, x2, x3⟩, q0, q1, q2, q3⟩ := FC.out w18 h18
      have K := before_any _ c an bn w18 (HO.out w18 h18) HSZ.out
      rw [E3.out] at K
      have HK := hid K
      clear K
      go_wp2_with fail
      clear a0 a1 a2 a3 x0 x1 x2 x3 q0 q1 q2 q3
      refine (HK.out).mono ?_
      rintro e w19 ⟨rfl, h⟩
      have h19 := h18.trans h
      have X19 := X18.trans h
      clear h
      clear HK
      obtain ⟨⟨a0, a1, a2, a3⟩, ⟨x0, x1, x2, x3⟩, q0, q1, q2, q3⟩ := FC.out w19 h19
      have K := ask_any _ c an bn w19 (HO.out w19 h19) HSZ.out
      rw [E4.out] at K
      have HK := hid K
      clear K
      go_wp2_with fail
      clear a0 a1 a2 a3 x0 x1 x2 x3 q0 q1 q2 q3
      refine HK.out.mono ?_
      clear HK
      rintro e w20 ⟨rfl, h⟩
      have h20 := h19.trans h
      have X20 := X19.trans h
      clear h
      obtain ⟨Wz, hWz⟩ : ∃ Wz, w20.alloc (.cells #[.int .i64 0, .int .i64 0] 59) = Wz := ⟨_, rfl⟩
      obtain ⟨Bs, hBs⟩ : ∃ Bs, w20.heap.size = Bs := ⟨_, rfl⟩
      obtain ⟨w21, hWs⟩ : ∃ Ws, (Wz.setCell ⟨Bs, 0, none⟩ (.int .i64 (-H))).setCell ⟨Bs, 1, none⟩ (.int .i64 (G)) = Ws := ⟨_, rfl⟩
      have z0 : Wz.cell? ⟨Bs, 0, none⟩ = some (.int .i64 0) := by rw [← hWz, ← hBs]; simp [go_sem]
      have z1 : Wz.cell? ⟨Bs, 1, none⟩ = some (.int .i64 0) := by rw [← hWz, ← hBs]; simp [go_sem]
      have y0 : Wz.frozen? ⟨Bs, 0, none⟩ = false := by rw [← hWz, ← hBs]; simp [go_sem]
      have y1 : Wz.frozen? ⟨Bs, 1, none⟩ = false := by rw [← hWz, ← hBs]; simp [go_sem]
      have h : Ext w20 w21 := by rw [← hWs, ← hWz]; exact (((Ext.refl _).alloc _).setCell (by simp [← hBs]) _).setCell (by simp [← hBs]) _
      have h21 := h20.trans h
      have X21 := X20.trans h
      have FS : Hid (∀ w', Ext w21 w' → w'.cell? ⟨Bs, 0, none⟩ = some (.int .i64 (-H)) ∧ w'.cell? ⟨Bs, 1, none⟩ = some (.int .i64 (G))) := fun w' h => ⟨h.cell (by rw [← hWs]; simp [go_sem, z0, z1]), h.cell (by rw [← hWs]; simp [go_sem, z0, z1])⟩
      clear h
      obtain ⟨s0, s1⟩ := FS.out w21 (Ext.refl _)
      obtain ⟨⟨a0, a1, a2, a3⟩, ⟨x0, x1, x2, x3⟩, q0, q1, q2, q3⟩ := FC.out w21 h21
      have K := refevery_any _ c w21 (HXX.out w21 h21) HWI.out.1 HWI.out.2
      have HK := hid K
      clear K
      go_wp2_with fail
      clear a0 a1 a2 a3 x0 x1 x2 x3 q0 q1 q2 q3
      try rw [hWz]
      try rw [hBs]
      try rw [hWs]
      try clear hWs hWz hBs z0 z1 y0 y1 s0 s1
      refine HK.out.mono ?_
      rintro e w22 ⟨Be, rfl, -, hBe, h⟩
      have h22 := h21.trans h
      have X22 := X21.trans h
      have FS1 : Hid (∀ w', Ext w22 w' → w'.cell? ⟨Bs, 0, none⟩ = some (.int .i64 (-H)) ∧ w'.cell? ⟨Bs, 1, none⟩ = some (.int .i64 (G))) := fun w' k => FS.out w' (h.trans k)
      have HBE : Hid (∀ w', Ext w22 w' → Bools w' (some ⟨Be, 0, none⟩) (rl c.wi.toNat fun _ => true)) := fun w' k => hBe.bools.ext k
      clear h hBe HK FS
      have t22 : Ext w22 w22 := Ext.refl _
      obtain ⟨⟨a0, a1, a2, a3⟩, ⟨x0, x1, x2, x3⟩, q0, q1, q2, q3⟩ := FC.out w22 h22
      have K := refgap_any _ c (some ⟨Be, 0, none⟩) c.wi.toNat (rl c.wi.toNat fun _ => true) an bn w22 (HXX.out w22 h22) HSZ.out H0.out (HBE.out w22 t22) (rl_len _ _) HLA.out HLB.out
      rw [rl_len, G1.out] at K
      have HK := hid K
      clear K
      go_wp2_with fail
      clear a0 a1 a2 a3 x0 x1 x2 x3 q0 q1 q2 q3
      refine (HK.out).mono ?_
      rintro e w23 ⟨rfl, h⟩
      have h23 := h22.trans h
      have X23 := X22.trans h
      have t23 := t22.trans h
      clear h
      clear HK
      obtain ⟨⟨a0, a1, a2, a3⟩, ⟨x0, x1, x2, x3⟩, q0, q1, q2, q3⟩ := FC.out w23 h23
      have K := refgap_any _ c (some ⟨Be, 0, none⟩) c.wi.toNat (rl c.wi.toNat fun _ => true) bn an w23 (HXX.out w23 h23) HSZ.out H0.out (HBE.out w23 t23) (rl_len _ _) HLB.out HLA.out
      rw [rl_len, G2.out] at K
      have HK := hid K
      clear K
      go_wp2_with fail
      clear a0 a1 a2 a3 x0 x1 x2 x3 q0 q1 q2 q3
      refine (HK.out).mono ?_
      rintro e w24 ⟨rfl, h⟩
      have h24 := h23.trans h
      have X24 := X23.trans h
      have t24 := t23.trans h
      clear h
      clear HK
      obtain ⟨⟨a0, a1, a2, a3⟩, ⟨x0, x1, x2, x3⟩, q0, q1, q2, q3⟩ := FC.out w24 h24
      have K := refno_any _ c (some ⟨Be, 0, none⟩) c.wi.toNat (rl c.wi.toNat fun _ => true) an bn w24 (HXX.out w24 h24) HSZ.out H0.out (HBE.out w24 t24) (rl_len _ _) HLA.out HLB.out
      rw [rl_len, NO.out] at K
      have HK := hid K
      clear K
      go_wp2_with fail
      clear a0 a1 a2 a3 x0 x1 x2 x3 q0 q1 q2 q3
      refine (HK.out).mono ?_
      rintro e w25 ⟨rfl, h⟩
      have h25 := h24.trans h
      have X25 := X24.trans h
      have t25 := t24.trans h
      clear h
      clear HK
      obtain ⟨⟨a0, a1, a2, a3⟩, ⟨x0, x1, x2, x3⟩, q0, q1, q2, q3⟩ := FC.out w25 h25
      have K := refyes_any _ c (some ⟨Be, 0, none⟩) c.wi.toNat (rl c.wi.toNat fun _ => true) an bn w25 (HXX.out w25 h25) HSZ.out H0.out (HBE.out w25 t25) (rl_len _ _) HLA.out HLB.out
      rw [rl_len, YES.out] at K
      have HK := hid K
      clear K
      go_wp2_with fail
      clear a0 a1 a2 a3 x0 x1 x2 x3 q0 q1 q2 q3
      refine (HK.out).mono ?_
      rintro e w26 ⟨rfl, h⟩
      have h26 := h25.trans h
      have X26 := X25.trans h
      have t26 := t25.trans h
      clear h
      clear HK
      obtain ⟨⟨a0, a1, a2, a3⟩, ⟨x0, x1, x2, x3⟩, q0, q1, q2, q3⟩ := FC.out w26 h26
      have K := refshows_any _ c an bn A9 k9 (rowL c.all c.ev.toNat an bn) w26 (HXX.out w26 h26) HSZ.out (HI9.out w26 X26) HLEN.out
      rw [SH.out] at K
      have HK := hid K
      clear K
      go_wp2_with fail
      clear a0 a1 a2 a3 x0 x1 x2 x3 q0 q1 q2 q3
      refine (HK.out).mono ?_
      rintro e w27 ⟨rfl, h⟩
      have h27 := h26.trans h
      have X27 := X26.trans h
      have t27 := t26.trans h
      clear h
      clear HK
      obtain ⟨⟨a0, a1, a2, a3⟩, ⟨x0, x1, x2, x3⟩, q0, q1, q2, q3⟩ := FC.out w27 h27
      have K := twice_any A9 k9 (rowL c.all c.ev.toNat an bn) w27 (HI9.out w27 X27) HL6.out HND.out HIN.out
      have HK := hid K
      clear K
      go_wp2_with fail
      clear a0 a1 a2 a3 x0 x1 x2 x3 q0 q1 q2 q3
      refine (HK.out).mono ?_
      rintro e w28 ⟨rfl, h⟩
      have h28 := h27.trans h
      have X28 := X27.trans h
      have t28 := t27.trans h
      clear h
      clear HK
      obtain ⟨⟨a0, a1, a2, a3⟩, ⟨x0, x1, x2, x3⟩, q0, q1, q2, q3⟩ := FC.out w28 h28
      obtain ⟨s0, s1⟩ := FS1.out w28 t28
      go_wp2_with fail
      clear a0 a1 a2 a3 x0 x1 x2 x3 q0 q1 q2 q3
      try rw [hWz]
      try rw [hBs]
      try rw [hWs]
      try clear hWs hWz hBs z0 z1 y0 y1 s0 s1
      refine (same_yes _ _ c w28 (HO.out w28 h28) (HV.out w28 h28) HSZ.out).mono ?_
      rintro e v1 ⟨rfl, h⟩
      have hh1 := h28.trans h
      clear h
      go_wp2_with fail
      refine (awake_any v1).mono ?_
      rintro e v2 ⟨rfl, h⟩
      go_wp2
      go_ret
      exact ⟨rfl, HXN.out.trans (hh1.trans h)⟩
    · rw [if_neg hH] at e3
      rw [if_neg hG0] at e3
      have hy : decide (G < 1) = false := by rw [decide_eq_false_iff_not]; omega
      rw [hy] at hno
      clear hy
      have hy : decide (H ≤ -1) = false := by rw [decide_eq_false_iff_not]; omega
      rw [hy] at hyes
      clear hy hH hG0
      have E1 := hid e1
      have E2 := hid e2
      have E3 := hid e3
      have E4 := hid e4
      have G1 := hid hg1
      have G2 := hid hg2
      have NO := hid hno
      have YES := hid hyes
      clear e1 e2 e3 e4 hg1 hg2 hno hyes
      have K := refasked_any _ c an bn w15 (HXX.out w15 h15) HSZ.out
      rw [HE.out] at K
      have HK := hid K
      clear K
      go_wp2_with fail
      clear a0 a1 a2 a3 x0 x1 x2 x3 q0 q1 q2 q3
      refine (HK.out).mono ?_
      rintro e w16 ⟨rfl, h⟩
      have h16 := h15.trans h
      clear h
      clear HK
      obtain ⟨⟨a0, a1, a2, a3⟩, ⟨x0, x1, x2, x3⟩, q0, q1, q2, q3⟩ := FC.out w16 h16
      have K := gap_any _ c an bn w16 (HO.out w16 h16) HSZ.out
      rw [E1.out] at K
      have HK := hid K
      clear K
      go_wp2_with fail
      clear a0 a1 a2 a3 x0 x1 x2 x3 q0 q1 q2 q3
      refine (HK.out).mono ?_
      rintro e w17 ⟨rfl, h⟩
      have h17 := h16.trans h
      clear h
      clear HK
      obtain ⟨⟨a0, a1, a2, a3⟩, ⟨x0, x1, x2, x3⟩, q0, q1, q2, q3⟩ := FC.out w17 h17
      have K := rowa_any _ c an bn w17 (HO.out w17 h17) HSZ.out
      unfold RowPost at K
      rw [E2.out] at K
      simp only [Int.toNat_natCast] at K
      have HK := hid K
      clear K
      go_wp2_with fail
      clear a0 a1 a2 a3 x0 x1 x2 x3 q0 q1 q2 q3
      refine (HK.out).mono ?_
      rintro e w18 ⟨r9, rfl, h, -, hr9⟩
      have h18 := h17.trans h
      clear h
      obtain ⟨A9, k9, rfl, hI9⟩ := hr9 (by first | rfl | trivial)
      clear HK hr9
      have HI9 : Hid (∀ w', Ext w18 w' → Ints w' A9 (rowL c.all c.ev.toNat an bn)) := fun w' h => hI9.ext h
      have X18 : Ext w18 w18 := Ext.refl _
      clear hI9
      obtain ⟨⟨a0, a1, a2, a3⟩, ⟨x0, x1, x2, x3⟩, q0, q1, q2, q3⟩ := FC.out w18 h18
      have K := before_any _ c an bn w18 (HO.out w18 h18) HSZ.out
      rw [E3.out] at K
      have HK := hid K
      clear K
      go_wp2_with fail
      clear a0 a1 a2 a3 x0 x1 x2 x3 q0 q1 q2 q3
      refine (HK.out).mono ?_
      rintro e w19 ⟨rfl, h⟩
      have h19 := h18.trans h
      have X19 := X18.trans h
      clear h
      clear HK
      obtain ⟨⟨a0, a1, a2, a3⟩, ⟨x0, x1, x2, x3⟩, q0, q1, q2, q3⟩ := FC.out w19 h19
      have K := ask_any _ c an bn w19 (HO.out w19 h19) HSZ.out
      rw [E4.out] at K
      have HK := hid K
      clear K
      go_wp2_with fail
      clear a0 a1 a2 a3 x0 x1 x2 x3 q0 q1 q2 q3
      refine HK.out.mono ?_
      clear HK
      rintro e w20 ⟨rfl, h⟩
      have h20 := h19.trans h
      have X20 := X19.trans h
      clear h
      obtain ⟨Wz, hWz⟩ : ∃ Wz, w20.alloc (.cells #[.int .i64 0, .int .i64 0] 59) = Wz := ⟨_, rfl⟩
      obtain ⟨Bs, hBs⟩ : ∃ Bs, w20.heap.size = Bs := ⟨_, rfl⟩
      obtain ⟨w21, hWs⟩ : ∃ Ws, (Wz.setCell ⟨Bs, 0, none⟩ (.int .i64 (-H))).setCell ⟨Bs, 1, none⟩ (.int .i64 (G)) = Ws := ⟨_, rfl⟩
      have z0 : Wz.cell? ⟨Bs, 0, none⟩ = some (.int .i64 0) := by rw [← hWz, ← hBs]; simp [go_sem]
      have z1 : Wz.cell? ⟨Bs, 1, none⟩ = some (.int .i64 0) := by rw [← hWz, ← hBs]; simp [go_sem]
      have y0 : Wz.frozen? ⟨Bs, 0, none⟩ = false := by rw [← hWz, ← hBs]; simp [go_sem]
      have y1 : Wz.frozen? ⟨Bs, 1, none⟩ = false := by rw [← hWz, ← hBs]; simp [go_sem]
      have h : Ext w20 w21 := by rw [← hWs, ← hWz]; exact (((Ext.refl _).alloc _).setCell (by simp [← hBs]) _).setCell (by simp [← hBs]) _
      have h21 := h20.trans h
      have X21 := X20.trans h
      have FS : Hid (∀ w', Ext w21 w' → w'.cell? ⟨Bs, 0, none⟩ = some (.int .i64 (-H)) ∧ w'.cell? ⟨Bs, 1, none⟩ = some (.int .i64 (G))) := fun w' h => ⟨h.cell (by rw [← hWs]; simp [go_sem, z0, z1]), h.cell (by rw [← hWs]; simp [go_sem, z0, z1])⟩
      clear h
      obtain ⟨s0, s1⟩ := FS.out w21 (Ext.refl _)
      obtain ⟨⟨a0, a1, a2, a3⟩, ⟨x0, x1, x2, x3⟩, q0, q1, q2, q3⟩ := FC.out w21 h21
      have K := refevery_any _ c w21 (HXX.out w21 h21) HWI.out.1 HWI.out.2
      have HK := hid K
      clear K
      go_wp2_with fail
      clear a0 a1 a2 a3 x0 x1 x2 x3 q0 q1 q2 q3
      try rw [hWz]
      try rw [hBs]
      try rw [hWs]
      try clear hWs hWz hBs z0 z1 y0 y1 s0 s1
      refine HK.out.mono ?_
      rintro e w22 ⟨Be, rfl, -, hBe, h⟩
      have h22 := h21.trans h
      have X22 := X21.trans h
      have FS1 : Hid (∀ w', Ext w22 w' → w'.cell? ⟨Bs, 0, none⟩ = some (.int .i64 (-H)) ∧ w'.cell? ⟨Bs, 1, none⟩ = some (.int .i64 (G))) := fun w' k => FS.out w' (h.trans k)
      have HBE : Hid (∀ w', Ext w22 w' → Bools w' (some ⟨Be, 0, none⟩) (rl c.wi.toNat fun _ => true)) := fun w' k => hBe.bools.ext k
      clear h hBe HK FS
      have t22 : Ext w22 w22 := Ext.refl _
      obtain ⟨⟨a0, a1, a2, a3⟩, ⟨x0, x1, x2, x3⟩, q0, q1, q2, q3⟩ := FC.out w22 h22
      have K := refgap_any _ c (some ⟨Be, 0, none⟩) c.wi.toNat (rl c.wi.toNat fun _ => true) an bn w22 (HXX.out w22 h22) HSZ.out H0.out (HBE.out w22 t22) (rl_len _ _) HLA.out HLB.out
      rw [rl_len, G1.out] at K
      have HK := hid K
      clear K
      go_wp2_with fail
      clear a0 a1 a2 a3 x0 x1 x2 x3 q0 q1 q2 q3
      refine (HK.out).mono ?_
      rintro e w23 ⟨rfl, h⟩
      have h23 := h22.trans h
      have X23 := X22.trans h
      have t23 := t22.trans h
      clear h
      clear HK
      obtain ⟨⟨a0, a1, a2, a3⟩, ⟨x0, x1, x2, x3⟩, q0, q1, q2, q3⟩ := FC.out w23 h23
      have K := refgap_any _ c (some ⟨Be, 0, none⟩) c.wi.toNat (rl c.wi.toNat fun _ => true) bn an w23 (HXX.out w23 h23) HSZ.out H0.out (HBE.out w23 t23) (rl_len _ _) HLB.out HLA.out
      rw [rl_len, G2.out] at K
      have HK := hid K
      clear K
      go_wp2_with fail
      clear a0 a1 a2 a3 x0 x1 x2 x3 q0 q1 q2 q3
      refine (HK.out).mono ?_
      rintro e w24 ⟨rfl, h⟩
      have h24 := h23.trans h
      have X24 := X23.trans h
      have t24 := t23.trans h
      clear h
      clear HK
      obtain ⟨⟨a0, a1, a2, a3⟩, ⟨x0, x1, x2, x3⟩, q0, q1, q2, q3⟩ := FC.out w24 h24
      have K := refno_any _ c (some ⟨Be, 0, none⟩) c.wi.toNat (rl c.wi.toNat fun _ => true) an bn w24 (HXX.out w24 h24) HSZ.out H0.out (HBE.out w24 t24) (rl_len _ _) HLA.out HLB.out
      rw [rl_len, NO.out] at K
      have HK := hid K
      clear K
      go_wp2_with fail
      clear a0 a1 a2 a3 x0 x1 x2 x3 q0 q1 q2 q3
      refine (HK.out).mono ?_
      rintro e w25 ⟨rfl, h⟩
      have h25 := h24.trans h
      have X25 := X24.trans h
      have t25 := t24.trans h
      clear h
      clear HK
      obtain ⟨⟨a0, a1, a2, a3⟩, ⟨x0, x1, x2, x3⟩, q0, q1, q2, q3⟩ := FC.out w25 h25
      have K := refyes_any _ c (some ⟨Be, 0, none⟩) c.wi.toNat (rl c.wi.toNat fun _ => true) an bn w25 (HXX.out w25 h25) HSZ.out H0.out (HBE.out w25 t25) (rl_len _ _) HLA.out HLB.out
      rw [rl_len, YES.out] at K
      have HK := hid K
      clear K
      go_wp2_with fail
      clear a0 a1 a2 a3 x0 x1 x2 x3 q0 q1 q2 q3
      refine (HK.out).mono ?_
      rintro e w26 ⟨rfl, h⟩
      have h26 := h25.trans h
      have X26 := X25.trans h
      have t26 := t25.trans h
      clear h
      clear HK
      obtain ⟨⟨a0, a1, a2, a3⟩, ⟨x0, x1, x2, x3⟩, q0, q1, q2, q3⟩ := FC.out w26 h26
      have K := refshows_any _ c an bn A9 k9 (rowL c.all c.ev.toNat an bn) w26 (HXX.out w26 h26) HSZ.out (HI9.out w26 X26) HLEN.out
      rw [SH.out] at K
      have HK := hid K
      clear K
      go_wp2_with fail
      clear a0 a1 a2 a3 x0 x1 x2 x3 q0 q1 q2 q3
      refine (HK.out).mono ?_
      rintro e w27 ⟨rfl, h⟩
      have h27 := h26.trans h
      have X27 := X26.trans h
      have t27 := t26.trans h
      clear h
      clear HK
      obtain ⟨⟨a0, a1, a2, a3⟩, ⟨x0, x1, x2, x3⟩, q0, q1, q2, q3⟩ := FC.out w27 h27
      have K := twice_any A9 k9 (rowL c.all c.ev.toNat an bn) w27 (HI9.out w27 X27) HL6.out HND.out HIN.out
      have HK := hid K
      clear K
      go_wp2_with fail
      clear a0 a1 a2 a3 x0 x1 x2 x3 q0 q1 q2 q3
      refine (HK.out).mono ?_
      rintro e w28 ⟨rfl, h⟩
      have h28 := h27.trans h
      have X28 := X27.trans h
      have t28 := t27.trans h
      clear h
      clear HK
      obtain ⟨⟨a0, a1, a2, a3⟩, ⟨x0, x1, x2, x3⟩, q0, q1, q2, q3⟩ := FC.out w28 h28
      obtain ⟨s0, s1⟩ := FS1.out w28 t28
      go_wp2_with fail
      clear a0 a1 a2 a3 x0 x1 x2 x3 q0 q1 q2 q3
      try rw [hWz]
      try rw [hBs]
      try rw [hWs]
      try clear hWs hWz hBs z0 z1 y0 y1 s0 s1
      refine (same_yes _ _ c w28 (HO.out w28 h28) (HV.out w28 h28) HSZ.out).mono ?_
      rintro e v1 ⟨rfl, h⟩
      have hh1 := h28.trans h
      clear h
      go_wp2_with fail
      refine (awake_any v1).mono ?_
      rintro e v2 ⟨rfl, h⟩
      go_wp2
      go_ret
      exact ⟨rfl, HXN.out.trans (hh1.trans h)⟩
end Go.Proofs.Ytgnjhaomlbkgcaa

namespace Go.Proofs.Ytgnjhaomlbkgcaa
open Go.ChangeShapes Go.WideShapes Go.ChangeAt Go.RowKit
open Go.ChangeMaps (open_string shut_string)
set_option linter.unusedVariables false
set_option linter.unusedSimpArgs false

set_option maxRecDepth 100000 in
theorem rows_lifted (os : Os) (started : os.Started) (H : Type) (enc : TypeId × Value → H) :
    ReturnsInHanded {} Try.checked os 6 .any (Rows.warnRowsSpec.pre6 enc Try.prog Try.f6 Rows.warnRowsRow.domain false) (Rows.warnRowsSpec.post enc Try.prog Try.f6 false true false false) := by
  refine returnsInHanded_of_change (C := Try.checked) lOwn started (by kernel_rfl) Try.func6
    (ChangeSpec.witness6 (enc := enc) (C := Try.checked) false ⟨#[], #[.agg #[.int .i64 0, .slice none 0 0, .int .i64 0, .slice none 0 0], .int .i64 0, .int .i64 0, .slice none 0 0], []⟩ 8 (by kernel_rfl) (by kernel_rfl) (by kernel_rfl) (by kernel_rfl)) ?_
  intro W base args ds gs before hval0 hW hcnd _
  have hval : ∀ (j : Nat) t v, Try.f6.params[j]? = some t → args[j]? = some v → Value.okWide Try.prog W .any base t v := hval0
  have hW' := hW
  obtain ⟨p, q, hA0, hV, rfl, hfz, hnd⟩ := hW
  have hA : DataW.TrodAll enc Try.prog W 0 (fun _ => true) true Try.f6.params.toList args.toList ds p := hA0
  rw [Try.params6] at hA hval
  obtain ⟨v0, vs0, d0, ds0, p0, q0, hargs, rfl, rfl, h0, r0⟩ := trodAll_cons hA
  obtain ⟨v1, vs1, d1, ds1, p1, q1, rfl, rfl, rfl, h1, r1⟩ := trodAll_cons r0
  obtain ⟨v2, vs2, d2, ds2, p2, q2, rfl, rfl, rfl, h2, r2⟩ := trodAll_cons r1
  obtain ⟨v3, vs3, d3, ds3, p3, q3, rfl, rfl, rfl, h3, r3⟩ := trodAll_cons r2
  obtain ⟨rfl, rfl, rfl⟩ := trodAll_nil r3
  obtain rfl : args = #[v0, v1, v2, v3] := by cases args; simp_all
  obtain ⟨rfl, rfl⟩ := trodVars_none hV
  have k0 := h0
  have lt0 : ∀ x ∈ p0, x.block < W.heap.size := by obtain ⟨m, hm⟩ := k0; exact DataW.trod_lt m _ _ _ hm
  obtain ⟨c, hC, hs⟩ := open_case (hval 0 26 v0 rfl rfl) h0
  obtain ⟨a1, rfl, rfl, rfl, w1⟩ := open_int Try.underlying3 (hval 1 3 v1 rfl rfl) h1
  obtain ⟨a2, rfl, rfl, rfl, w2⟩ := open_int Try.underlying3 (hval 2 3 v2 rfl rfl) h2
  obtain ⟨a3, len3, cap3, rfl⟩ := okWide_slice Try.underlying27 (hval 3 27 v3 rfl rfl)
  have k3 := h3
  have lt3 : ∀ x ∈ p3, x.block < W.heap.size := by obtain ⟨m, hm⟩ := k3; exact DataW.trod_lt m _ _ _ hm
  obtain ⟨l, hll, hI⟩ : ∃ l : List Int, l.length = len3 ∧ Ints W a3 l := by
    obtain ⟨fuel, hf⟩ := h3
    rcases open_ints Try.underlying27 Try.underlying3 (by kernel_rfl) hf with ⟨hcs, _⟩ | ⟨x, l, c, zs, hcs, _, hl, hm, hz, _, hcell, hwz⟩
    · simp [Value.cells] at hcs
      obtain ⟨rfl, rfl, rfl⟩ := hcs
      exact ⟨[], rfl, Ints.nil _ _⟩
    · simp [Value.cells] at hcs
      obtain ⟨rfl, rfl, rfl⟩ := hcs
      have hz2 : zs.length = cap3 := by simpa using hz
      refine ⟨zs.take len3, by simp; omega, rd_of_cells fun j u hu => ?_⟩
      rw [List.getElem?_map] at hu
      rcases hj : (zs.take len3)[j]? with _ | y
      · rw [hj] at hu; cases hu
      · rw [hj] at hu
        cases hu
        have hjl : j < zs.length := by have := (List.getElem?_eq_some_iff.1 hj).1; simp at this; omega
        have hjl2 : j < len3 := by have := (List.getElem?_eq_some_iff.1 hj).1; simp at this; omega
        rw [hcell j hjl]
        rw [List.getElem?_take, if_pos hjl2] at hj
        simp [List.getD_eq_getElem?_getD, hj]
  subst hll
  clear hA0 hval0
  refine (rowsw_any v0 c a1 a2 a3 cap3 l W hC hs hI).mono fun e W' ⟨he, bel⟩ => ?_
  subst he
  exact ⟨_, rfl, _, _, _, [], _, [], hW', trodAll_mk1 (shut_bool Try.underlying4 _), (trodAll_cons_mk (Below.trod lLaid (by kernel_rfl) (of_decide_eq_true (by kernel_rfl)) k0 bel lt0) (trodAll_cons_mk (shut_int Try.underlying3 w1) (trodAll_cons_mk (shut_int Try.underlying3 w2) (trodAll_cons_mk (Below.trod lLaid (by kernel_rfl) (of_decide_eq_true (by kernel_rfl)) k3 bel lt3) trodAll_mk0)))), rfl, bel.frame _, fun h => by cases h⟩

theorem rows_over : Rows.warnRowsRow.holds Try.pinned (OpenSpec.ofChange Rows.warnRowsSpec) :=
  OpenClaim.holds_of_wide 6 Try.f6 rfl rfl rfl rfl rfl rfl rfl ⟨rfl, rfl, rfl, rfl, rfl⟩ rfl rfl rfl rfl rfl (by kernel_rfl) Try.func6 (by kernel_rfl)
    (of_decide_eq_true (by kernel_rfl)) (by unfold Func.isWrapper; first | (rw [if_pos (by decide +kernel)]; kernel_rfl) | (rw [if_neg (by decide +kernel)]; exact ⟨rfl, rfl⟩))
    (fun os started H enc _ => rows_lifted os started H enc)

theorem rows_holds : Rows.WarnRowsSaid := rows_over
#print axioms rows_holds
end Go.Proofs.Ytgnjhaomlbkgcaa
