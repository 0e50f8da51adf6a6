/- The walk of boil.Trusted. Printed by my gen_btrs.py. -/
import Derived.Test.YtjnobdcbbboeeaaH9
namespace Go.Proofs.Ytjnobdcbbboeeaa
open Go Go.RowKit Go.Shelf
set_option linter.unusedVariables false
set_option linter.unusedSimpArgs false

def doubt (pre : List (List Int)) : Nat → Bool := fun b => pre.any fun l => memI (b : Int) l
/-- Block F is the set of Trusted. -/
def TruJ (F : Nat) (pre : List (List Int)) (W : World) : Prop := BB W F (doubt pre)
theorem doubt_nil : doubt [] = fun _ => false := rfl
theorem doubt_app (pre : List (List Int)) (l : List Int) : doubt (pre ++ [l]) = fun b => doubt pre b || memI (b : Int) l := by
  funext b; unfold doubt; rw [List.any_append]; simp
theorem doubt_upd (pre : List (List Int)) {l : List Int} {k n : Nat} (hk : l[k]? = some (n : Int)) : updB (fun b => doubt pre b || memI (b : Int) (l.take k)) n true = fun b => doubt pre b || memI (b : Int) (l.take (k + 1)) := by
  funext b
  unfold updB
  rw [List.take_add_one, hk]
  by_cases e : b = n
  · subst e
    rw [if_pos rfl]
    have : memI (b : Int) (l.take k ++ (some (b : Int)).toList) = true := mem_memI.2 (by simp)
    rw [this]; simp
  · rw [if_neg e]
    have : memI (b : Int) (l.take k ++ (some (n : Int)).toList) = memI (b : Int) (l.take k) := by
      rw [Bool.eq_iff_iff, mem_memI, mem_memI]; simp; omega
    rw [this]
set_option maxRecDepth 100000 in
set_option maxHeartbeats 4000000 in
theorem tru_call (B0 F : Nat) (hF : F < B0) (pre : List (List Int)) (l : List Int) (B : Nat) (A : Option Addr) (c : Nat) (W : World) (hJ : TruJ F pre W) (hl : l.length ≤ 14) (hlx : ∀ x ∈ l, 0 ≤ x ∧ x < 14) (hB : B0 ≤ B) (ho : W.ownsRow B 3 1 (.slice A l.length c) l.length (l.map (.int .i64))) :
    Calls Try.prog 89 #[.slice A l.length c, .pointer (some ⟨F, 0, none⟩)] W fun e W' => e = .returned (.bool true) ∧ TruJ F (pre ++ [l]) W' ∧ BelS (fun k => k = F) W W' := by
  have HA : Ints W A l := Rd.of_own ho
  have hnA : ∀ a, A = some a → a.block ≠ F := fun a ha => by
    have := (own_block_lt ho a ha).1
    omega
  have HLX := hid hlx
  have HJ : Hid (BB W F (fun b => doubt pre b || memI (b : Int) (l.take 0))) := by
    have e : (fun b => doubt pre b || memI (b : Int) (l.take 0)) = doubt pre := by funext b; simp [memI]
    rw [e]; exact hJ
  have HT : Hid (doubt (pre ++ [l]) = fun b => doubt pre b || memI (b : Int) l) := doubt_app pre l
  obtain ⟨N, hN⟩ : ∃ N : Nat, l.length = N := ⟨_, rfl⟩
  have HN := hid hN
  rw [hN] at hl ⊢
  clear hN hlx ho hJ
  go_enter Try.func89, Try.ntmps89
  go_wp2_with fail
  go_loopw [8] (fun i wr => ∃ k : Nat, i = .int .i64 (k : Int) ∧ k ≤ N ∧ BB wr F (fun b => doubt pre b || memI (b : Int) (l.take k)) ∧ BelS (fun k => k = F) W wr) (fun i _ => N - (intOf i).toNat)
  case atStart => exact ⟨0, rfl, Nat.zero_le _, HJ.out, BelS.refl _ _⟩
  case round =>
    obtain ⟨k, rfl, hk, hb, hbl⟩ := hrel
    by_cases hlt : k < N
    · have hlt' : (k : Int) < (N : Int) := by omega
      obtain ⟨x, hx⟩ := get_of_lt l k (by rw [HN.out]; exact hlt)
      have hxr := HLX.out x (List.mem_of_getElem? hx)
      obtain ⟨n, rfl⟩ : ∃ n : Nat, x = n := ⟨x.toNat, by omega⟩
      obtain ⟨b, off, hAA, e0⟩ := Ints.at_ (hbl.rd HA (fun a ha => hnA a ha)) hx
      subst hAA
      have hn14 : n < 14 := by omega
      have fz := hb.frozen n
      have cm := hb.cell hn14
      have hs := hb.set n true
      rw [doubt_upd pre hx] at hs
      have HS := hid hs
      have hbl2 := hid (BelS.setCell hbl ⟨F, n, none⟩ (.bool true) rfl)
      clear hs hx hb
      go_wp2
      go_roundw
      case rel => exact ⟨k + 1, by go_num, by omega, HS.out, hbl2.out⟩
      case measure => simp [intOf]; omega
    · have hlt' : ¬ (k : Int) < (N : Int) := by omega
      rw [List.take_of_length_le (by rw [HN.out]; omega)] at hb
      go_wp2
      go_ret
      exact ⟨rfl, by unfold TruJ; rw [HT.out]; exact hb, hbl⟩
theorem tru_watch (B0 F : Nat) (hF : F < B0) : WatchR B0 89 #[.pointer (some ⟨F, 0, none⟩)] true (fun k => k = F) (TruJ F) where
  enters := enters_of Try.func89 (by kernel_rfl) rfl
  ext := fun h hx => BB.ext h hx
  call := fun pre l B A c W hJ hl hlx hB ho => by
    simp only [List.append_toArray, List.cons_append, List.nil_append]
    exact tru_call B0 F hF pre l B A c W hJ hl hlx hB ho
def truV (h : Hs) : List Int := if checkH h ≠ 0 then [] else trustH h
def truK (h : Hs) (k : Nat) : List Int := someW (trustB h) k
theorem truK_next (h : Hs) (k : Nat) : truK h (k + 1) = truK h k ++ if trustB h k = true then [(k : Int)] else [] := by
  unfold truK; exact someW_snoc _ _
set_option maxRecDepth 100000 in
set_option maxHeartbeats 4000000 in
theorem trusted_any (v : Value) (h : Hs) (w : World) (hr : HsR w v h) (hs : h.sized) :
    Calls Try.prog 31 #[v] w fun e w' => ∃ A c, e = .returned (.tuple #[.slice A (truV h).length c, .int .i64 (fewE h)]) ∧ Ext w w' ∧ Ints w' A (truV h) := by
  obtain ⟨A, c, rfl, hrw, hcap⟩ := hr
  obtain ⟨T, hT⟩ : ∃ T, checkH h = T := ⟨_, rfl⟩
  obtain ⟨w1, hw1⟩ : ∃ w1, w.alloc (.cells #[.int .i64 h.mo, .int .i64 h.pk, .slice A h.ws.length c] 25) = w1 := ⟨_, rfl⟩
  have hx1 : Ext w w1 := by rw [← hw1]; exact Ext.alloc (Ext.refl w) _
  have b1 : w1.heap[w.heap.size]? = some (.cells #[.int .i64 h.mo, .int .i64 h.pk, .slice A h.ws.length c] 25 (0, 0)) := by rw [← hw1]; exact heap_alloc_new w _
  have FH : Hid (∀ w', Ext w1 w' → w'.cell? ⟨w.heap.size, 0, none⟩ = some (.int .i64 h.mo) ∧ w'.cell? ⟨w.heap.size, 1, none⟩ = some (.int .i64 h.pk) ∧ w'.cell? ⟨w.heap.size, 2, none⟩ = some (.slice A h.ws.length c)) := fun w' hx =>
    ⟨hx.cell (by rw [cell_of_row w1 w.heap.size 0 _ _ _ b1]; rfl), hx.cell (by rw [cell_of_row w1 w.heap.size 1 _ _ _ b1]; rfl), hx.cell (by rw [cell_of_row w1 w.heap.size 2 _ _ _ b1]; rfl)⟩
  have KO := hid (opened_any (hval h A c) h w1 ⟨A, c, rfl, Rows.ext hrw hx1, hcap⟩ hs)
  unfold hval at KO
  have HT := hid hT
  have HF : Hid (fewE h = T ∧ (T ≠ 0 → truV h = []) ∧ (T = 0 → truV h = truK h h.ws.length)) := by
    unfold Hid fewE truV
    rw [hT]
    exact ⟨rfl, fun e => by rw [if_pos e], fun e => by rw [if_neg (by simp [e])]; rfl⟩
  have HW1 := hid hw1
  clear hw1 hT hrw b1 hs
  unfold hval
  rw [HF.out.1]
  obtain ⟨L, hL⟩ : ∃ L, truV h = L := ⟨_, rfl⟩
  rw [hL] at HF ⊢
  clear hL
  go_enter Try.func31, Try.ntmps31
  go_upto_region 1 with fail
  rw [HW1.out]
  clear HW1
  obtain ⟨c0, c1, c2⟩ := FH.out w1 (Ext.refl _)
  go_wp2_with fail
  refine KO.out.mono ?_
  rintro e w2 ⟨r, rfl, h2, hok, hbad⟩
  rw [HT.out]
  rw [HT.out] at hok hbad
  have hx2 := hx1.trans h2
  clear KO c0 c1 c2
  by_cases h0 : T = 0
  case neg =>
    have h0b : (T != 0) = true := by simpa using h0
    have HL := HF.out.2.1 h0
    subst HL
    go_wp2
    go_ret2
    exact ⟨none, 0, rfl, hx2, Rd.nil _ _⟩
  subst h0
  have HL := HF.out.2.2 rfl
  subst HL
  have k := checkH_ok HT.out
  obtain ⟨D, A2, cc, rfl, hd, -, -⟩ := hok rfl
  clear hok hbad HF
  go_upto_region 5 with fail
  obtain ⟨W3, hW3⟩ : ∃ W3, w2.alloc (.cells (bcell14 fun _ => false).toArray 144) = W3 := ⟨_, rfl⟩
  have hx3 : Ext w2 W3 := by rw [← hW3]; exact Ext.alloc (Ext.refl _) _
  have hj3 : BB W3 w2.heap.size (doubt []) := by rw [doubt_nil, ← hW3]; exact heap_alloc_new _ _
  have hz3 : W3.heap.size = w2.heap.size + 1 := by rw [← hW3]; simp
  have hd3 := hd.ext hx3
  have hDl := hd.lt
  simp only [bcell14, List.range, List.range.loop, List.map_cons, List.map_nil] at hW3
  try rw [hW3]
  clear hW3
  have KS := hid (smallest_any h D A2 cc 89 #[.pointer (some ⟨w2.heap.size, 0, none⟩)] true (fun k => k = w2.heap.size) (TruJ w2.heap.size) W3 k.len (small_room k) hd3 (tru_watch _ _ (by omega)) (fun hp h hb => hb.heap (k := w2.heap.size) h (by omega)) (fun k hk => by subst hk; omega) hj3)
  have HTB : Hid (∀ i : Nat, doubt (smallL h) i = !trustB h i) := fun i => by unfold trustB doubt; simp
  obtain ⟨N, hN⟩ : ∃ N : Nat, h.ws.length = N := ⟨_, rfl⟩
  have HN := hid hN
  have hlen := k.len
  rw [hN] at FH hlen ⊢
  clear hN
  go_wp2_with fail
  refine KS.out.mono ?_
  rintro e W4 ⟨rfl, hj4, hb4⟩
  rw [show told true (smallL h) = smallL h from rfl] at hj4
  have hE4 : Ext w1 W4 := h2.trans (((Ext.belS hx3).trans hb4 |>.mono (S' := fun k => w2.heap.size ≤ k) (fun k _ hk => by subst hk; exact Nat.le_refl _)).ext (fun k hk hS => by omega))
  clear KS hb4 hx3 hd3 hd hj3
  obtain ⟨c0, c1, c2⟩ := FH.out W4 hE4
  go_wp2_with fail
  clear c0 c1 c2
  go_loopw [7, 24] (fun s7 i wr => ∃ (k n : Nat) (A' : Option Addr) (c' : Nat), i = .int .i64 (k : Int) ∧ k ≤ N ∧ Hid ((truK h k).length = n) ∧ n ≤ k ∧ s7 = .slice A' n c' ∧ wr.ownsRow W4.heap.size 3 1 (.slice A' n c') n ((truK h k).map (.int .i64)) ∧ Ext W4 wr) (fun _ i _ => N - (intOf i).toNat)
  case atStart => exact ⟨0, 0, none, 0, rfl, Nat.zero_le _, rfl, Nat.le_refl _, rfl, own_nil _ _ _ _, Ext.refl _⟩
  case round =>
    obtain ⟨k, n, A', c', rfl, hk, HKL, hnk, rfl, ho, hx⟩ := hrel
    by_cases hlt : k < N
    · have hlt' : (k : Int) < (N : Int) := by omega
      have hk14 : k < 14 := by omega
      have hk14' : (k : Int) < 14 := by omega
      have cm := (BB.ext hj4 hx).cell hk14
      rw [HTB.out k] at cm
      cases hb : trustB h k with
      | false =>
        rw [hb] at cm
        have HNX : Hid (truK h (k + 1) = truK h k) := by unfold Hid; rw [truK_next, hb]; simp
        clear hb
        go_wp2
        go_roundw
        case rel => exact ⟨k + 1, n, A', c', by go_num, by omega, by unfold Hid; rw [HNX.out]; exact HKL.out, by omega, rfl, by rw [HNX.out]; exact ho, hx⟩
        case measure => simp [intOf]; omega
      | true =>
        rw [hb] at cm
        have HNX : Hid (truK h (k + 1) = truK h k ++ [(k : Int)]) := by unfold Hid; rw [truK_next, hb]; simp
        have hwz := hx.size
        clear hb
        go_wp2_with (at_builtin; refine wpList_append_rd2 _ rfl _ _ 64 rfl elem_int W4.heap.size _ n ((truK h k).map (.int .i64)) rfl (own_below ho (Ext.alloc (Ext.refl _) _)) (some ⟨wr.heap.size, 0, none⟩) 1 1 [.int .i64 (k : Int)] rfl rfl (rd_blk2 (heap_alloc_new wr _)) (by intro u hu; simp at hu; subst hu; rfl) (by omega) (by simp; omega) ?_; intro A5 c5 w5 own5 bel5 gr5 at5)
        have gr5' : (wr.alloc (.cells #[.int .i64 (k : Int)] 3)).grownBy w5 (Value.slice A' n c').ownBlock := gr5
        have hxN : Ext W4 w5 := Ext.grown (hx.alloc (.cells #[.int .i64 (k : Int)] 3)) gr5' (fun j e => by have := (ho.lt j e).1; omega)
        rw [show (truK h k).map (Value.int .i64) ++ [.int .i64 (k : Int)] = (truK h (k + 1)).map (.int .i64) from by rw [HNX.out]; simp] at own5
        have HO := hid own5
        clear own5 bel5 gr5 gr5' at5
        go_roundw
        case rel => exact ⟨k + 1, n + 1, A5, c5, by go_num, by omega, by unfold Hid; rw [HNX.out, List.length_append, HKL.out]; rfl, by omega, rfl, HO.out, hxN⟩
        case measure => simp [intOf]; omega
    · have hlt' : ¬ (k : Int) < (N : Int) := by omega
      obtain rfl : k = N := by omega
      go_wp2
      go_ret2
      exact ⟨A', ⟨c', by first | rw [HKL.out]; rfl | rw [HN.out, HKL.out]; rfl | rw [HKL.out] | rw [HN.out, HKL.out]⟩, hx1.trans (hE4.trans hx), by first | exact Rd.of_own ho | (rw [HN.out]; exact Rd.of_own ho)⟩
end Go.Proofs.Ytjnobdcbbboeeaa
