/- The walk of boil.Shown. Printed by my gen_bsho.py. -/
import Derived.Test.YtjnobdcbbboeeaaGreatH6
import Derived.Test.YtjnobdcbbboeeaaGreatH3
namespace Go.Proofs.YtjnobdcbbboeeaaGreat
open Go Go.RowKit Go.Shelf
set_option linter.unusedVariables false
set_option linter.unusedSimpArgs false

def shoK (h : Hs) (k : Nat) : List Rt := (List.range k).map fun (m : Nat) => greatL oneR (lowsH h (m : Int))
theorem shoK_next (h : Hs) (k : Nat) : shoK h (k + 1) = shoK h k ++ [greatL oneR (lowsH h (k : Int))] := by
  unfold shoK; rw [List.range_succ, List.map_append]; rfl
theorem shoK_len (h : Hs) (k : Nat) : (shoK h k).length = k := by unfold shoK; simp
theorem lows_small {h : Hs} (k : HsOK h) (m : Int) : (∀ q ∈ lowsH h m, Rsm q) ∧ (lowsH h m).length ≤ 14 := by
  constructor
  · intro q hq
    unfold lowsH at hq
    obtain ⟨w, hw, rfl⟩ := List.mem_map.1 hq
    have hw2 := (List.mem_filter.1 hw).1
    have m1 := k.ms w hw2
    have p := lowR_pos (n := w.ml) (d := w.sh) (by omega) (by omega)
    have l := lowR_le (n := w.ml) (d := w.sh) (by omega) (by omega)
    unfold Wg.lo Rsm
    unfold Rpos at p
    omega
  · unfold lowsH
    rw [List.length_map]
    exact Nat.le_trans (List.length_filter_le _ _) k.len
theorem rd_blk3 {w : World} {B : Nat} {xs : List Value} {T : TypeId} {fr : Nat × Nat} (h : w.heap[B]? = some (.cells xs.toArray T fr)) : Rd w (some ⟨B, 0, none⟩) xs := rd_blk2 h
set_option maxRecDepth 100000 in
set_option maxHeartbeats 4000000 in
theorem shownx_any (v : Value) (h : Hs) (w : World) (hr : HsR w v h) (hs : h.sized) :
    Calls Tryz.prog 16 #[v] w fun e w' => ∃ A c, e = .returned (.tuple #[.slice A (shoV h).length c, .int .i64 (shoE h)]) ∧ Ext w w' ∧ w'.ownsRow w.heap.size 63 2 (.slice A (shoV h).length c) (shoV h).length (layPr.rows (shoV h)) := by
  obtain ⟨A, c, rfl, hrw, hcap⟩ := hr
  obtain ⟨T, hT⟩ : ∃ T, checkH h = T := ⟨_, rfl⟩
  obtain ⟨w1, hw1⟩ : ∃ w1, w.alloc (.cells #[.int .i64 h.mo, .int .i64 h.pk, .slice A h.ws.length c] 25) = w1 := ⟨_, rfl⟩
  have hx1 : Ext w w1 := by rw [← hw1]; exact Ext.alloc (Ext.refl w) _
  have b1 : w1.heap[w.heap.size]? = some (.cells #[.int .i64 h.mo, .int .i64 h.pk, .slice A h.ws.length c] 25 (0, 0)) := by rw [← hw1]; exact heap_alloc_new w _
  have FH : Hid (∀ w', Ext w1 w' → w'.cell? ⟨w.heap.size, 0, none⟩ = some (.int .i64 h.mo) ∧ w'.cell? ⟨w.heap.size, 1, none⟩ = some (.int .i64 h.pk) ∧ w'.cell? ⟨w.heap.size, 2, none⟩ = some (.slice A h.ws.length c)) := fun w' hx =>
    ⟨hx.cell (by rw [cell_of_row w1 w.heap.size 0 _ _ _ b1]; rfl), hx.cell (by rw [cell_of_row w1 w.heap.size 1 _ _ _ b1]; rfl), hx.cell (by rw [cell_of_row w1 w.heap.size 2 _ _ _ b1]; rfl)⟩
  have HR : Hid (∀ w', Ext w1 w' → HsR w' (hval h A c) h) := fun w' hx => ⟨A, c, rfl, Rows.ext hrw (hx1.trans hx), hcap⟩
  have KO := hid (opened_any (hval h A c) h w1 (HR.out w1 (Ext.refl _)) hs)
  unfold hval at KO
  have HT := hid hT
  obtain ⟨E, hE⟩ : ∃ E, shoE h = E := ⟨_, rfl⟩
  obtain ⟨V, hV⟩ : ∃ V, shoV h = V := ⟨_, rfl⟩
  have HE : Hid ((T ≠ 0 → E = T) ∧ (T = 0 → E = if agrH h = false then 7 else 0) ∧ V = if E = 0 then shownH h else []) := by
    refine ⟨fun e => ?_, fun e => ?_, ?_⟩
    · rw [← hE]; unfold shoE; rw [hT, if_pos e]
    · rw [← hE]; unfold shoE; rw [hT, if_neg (by simp [e])]
    · rw [← hV, ← hE]; rfl
  rw [hE, hV]
  have HW1 := hid hw1
  clear hw1 hT hrw b1 hs hE hV
  unfold hval
  go_enter Tryz.func16, Tryz.ntmps16
  go_upto_region 1 with fail
  rw [HW1.out]
  clear HW1
  obtain ⟨c0, c1, c2⟩ := FH.out w1 (Ext.refl _)
  go_wp2_with fail
  refine KO.out.mono ?_
  rintro e w2 ⟨r, rfl, h2, hok, hbad⟩
  rw [HT.out]
  rw [HT.out] at hok hbad
  have hx2 := hx1.trans h2
  clear KO c0 c1 c2
  by_cases h0 : T = 0
  case neg =>
    have h0b : (T != 0) = true := by simpa using h0
    have HL := HE.out.1 h0
    have HV := HE.out.2.2
    rw [HL, if_neg h0] at HV
    subst HL
    subst HV
    go_wp2
    go_ret2
    exact ⟨none, 0, rfl, hx2, own_nil _ _ _ _⟩
  subst h0
  have k := checkH_ok HT.out
  have hdk := hok rfl
  have HAE := hid (HE.out.2.1 rfl)
  have HVV := hid HE.out.2.2
  clear hok hbad HE
  have KA := hid (agree_any r h w2 hdk k.len)
  go_wp2_with fail
  refine KA.out.mono ?_
  rintro e w3 ⟨rfl, rfl⟩
  clear KA hdk
  cases ha : agrH h with
  | false =>
    have HL : E = 7 := by rw [HAE.out, ha]; rfl
    have HV := HVV.out
    rw [HL, if_neg (by decide)] at HV
    subst HL
    subst HV
    clear ha HAE HVV
    go_wp2
    go_ret2
    exact ⟨none, 0, rfl, hx2, own_nil _ _ _ _⟩
  | true =>
    have HL : E = 0 := by rw [HAE.out, ha]; rfl
    have HV := HVV.out
    rw [HL, if_pos rfl] at HV
    subst HL
    have hmo := k.mo
    obtain ⟨M, hM⟩ : ∃ M : Nat, h.mo = M := ⟨h.mo.toNat, by omega⟩
    have HVM : Hid (V = shoK h M) := by unfold Hid; rw [HV]; unfold shownH shoK; rw [hM]; rfl
    have hM12 : M ≤ 12 := by omega
    have HK := hid k
    have HM := hid hM
    clear ha HAE HVV HV k hmo
    rw [hM] at FH ⊢
    clear hM
    obtain ⟨c0, c1, c2⟩ := FH.out w2 h2
    go_wp2_with fail
    clear c0 c1 c2
    go_loopw [6, 21] (fun s6 i wr => ∃ (k : Nat) (A' : Option Addr) (c' : Nat), i = .int .i64 (k : Int) ∧ k ≤ M ∧ s6 = .slice A' k c' ∧ wr.ownsRow w2.heap.size 63 2 (.slice A' k c') k (layPr.rows (shoK h k)) ∧ Ext w2 wr) (fun _ i _ => M - (intOf i).toNat)
    case atStart => exact ⟨0, none, 0, rfl, Nat.zero_le _, rfl, own_nil _ _ _ _, Ext.refl _⟩
    case round =>
      obtain ⟨k, A', c', rfl, hk, rfl, ho, hx⟩ := hrel
      by_cases hlt : k < M
      · have hlt' : (k : Int) < (M : Int) := by omega
        have hx1r := h2.trans hx
        obtain ⟨c0, c1, c2⟩ := FH.out wr hx1r
        have KL := hid (lowers_any _ h (k : Int) wr (HR.out wr hx1r) HK.out.len HK.out.inn)
        unfold hval at KL
        rw [HM.out] at KL
        obtain ⟨hls, hll⟩ := lows_small HK.out (k : Int)
        have HNX : Hid (shoK h (k + 1) = shoK h k ++ [greatL oneR (lowsH h (k : Int))]) := shoK_next h k
        obtain ⟨LL, hLL⟩ : ∃ L, lowsH h (k : Int) = L := ⟨_, rfl⟩
        rw [hLL] at KL hls hll HNX
        clear hLL
        go_wp2_with fail
        refine KL.out.mono ?_
        rintro e w5 ⟨rr, rfl, hx5, Al, cl, rfl, hol⟩
        have KG := hid (greatest_any oneR Al cl LL w5 ⟨by decide, by decide⟩ (Rd.of_own hol) (by omega) hls)
        obtain ⟨R, hR⟩ : ∃ R, greatL oneR LL = R := ⟨_, rfl⟩
        rw [hR] at KG HNX
        unfold rval oneR at KG
        clear KL c0 c1 c2 hR hls
        go_wp2_with fail
        refine KG.out.mono ?_
        rintro e w6 ⟨rfl, hx6⟩
        clear KG hol
        have ho6 := own_below ho (hx5.trans hx6)
        have hxz := (hx.trans (hx5.trans hx6)).size
        go_wp2_with (at_builtin; refine wpList_append_rd2 _ rfl _ _ 26 rfl elem_rat w2.heap.size _ k (layPr.rows (shoK h k)) rfl (own_below ho6 (Ext.alloc (Ext.refl _) _)) (some ⟨w6.heap.size, 0, none⟩) 1 1 (layPr.cells R) rfl rfl (rd_blk2 (heap_alloc_new w6 _)) (layPr.one R) (by omega) (by simp; omega) ?_; intro A5 c5 w7 own5 bel5 gr5 at5)
        have gr5' : (w6.alloc (.cells (layPr.cells R).toArray 63)).grownBy w7 (Value.slice A' k c').ownBlock := gr5
        have hxN : Ext w2 w7 := Ext.grown ((hx.trans (hx5.trans hx6)).alloc (.cells (layPr.cells R).toArray 63)) gr5' (fun j e => by have := (ho6.lt j e).1; omega)
        rw [← layPr.rows_single, ← layPr.rows_app, ← HNX.out] at own5
        have HO := hid own5
        clear own5 bel5 gr5 gr5' at5
        go_roundw
        case rel => exact ⟨k + 1, A5, c5, by go_num, by omega, rfl, HO.out, hxN⟩
        case measure => simp [intOf]; omega
      · have hlt' : ¬ (k : Int) < (M : Int) := by omega
        obtain rfl : k = M := by omega
        have hVL : Hid (V.length = k) := by unfold Hid; rw [HVM.out, shoK_len]
        go_wp2
        go_ret2
        exact ⟨A', c', by rw [hVL.out]; rfl, hx2.trans hx, by rw [hVL.out, HVM.out]; exact own_base ho hx2.size⟩
end Go.Proofs.YtjnobdcbbboeeaaGreat
