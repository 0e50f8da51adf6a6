/- The walk of WarnRing. -/
import Derived.Test.YtgnjhaomlbkgcaaWMade
import Derived.Test.YtgnjhaomlbkgcaaWAwake
import Derived.Test.YtgnjhaomlbkgcaaWTruthP
import Derived.Test.YtgnjhaomlbkgcaaWRingP
import Derived.Test.YtgnjhaomlbkgcaaSum
import Derived.Test.YtgnjhaomlbkgcaaHolds
import Derived.Test.YtgnjhaomlbkgcaaTwice
import Derived.Test.YtgnjhaomlbkgcaaLawT
namespace Go.Proofs.Ytgnjhaomlbkgcaa
open Go Go.RowKit Go.Shelf
set_option linter.unusedVariables false
set_option linter.unusedSimpArgs false

theorem told_both {c : Cs} (h0 : checkC c = 0) : (toldC c = 0 ∧ ringC c = 6) ∨ (toldC c = 7 ∧ ringC c = 0 ∧ clashM (gapsM allT c) = true) := by
  unfold toldC ringC
  have e : ¬ checkC c ≠ 0 := by simp [h0]
  rw [if_pos h0, if_neg e]
  cases clashM (gapsM allT c)
  · left; exact ⟨rfl, rfl⟩
  · right; exact ⟨rfl, rfl, rfl⟩
theorem truth_holds {c : Cs} (h : toldC c = 0) : c.all.all (bdHolds (truthL c)) = true := by
  rw [List.all_eq_true]
  intro b hb
  have := (truth_ok h).2.2 b hb
  simpa [bdHolds] using this

set_option maxRecDepth 100000 in
set_option maxHeartbeats 8000000 in
theorem ringw_any (A : Option Addr) (l : List Int) (cap : Nat) (w : World) (hA : Bytes w A l) (hl : ∀ x ∈ l, 0 ≤ x ∧ x ≤ 255) (hlt : ∀ a, A = some a → l = [] ∨ a.block < w.heap.size) (hn : l.length ≤ 9223372036854775807) :
    Calls Try.prog 4 #[.slice A l.length cap] w fun e w' => e = .returned (.bool true) ∧ Ext w w' := by
  go_enter Try.func4, Try.ntmps4
  go_wp2_with fail
  refine (pile_any A l cap _ hA hl hlt hn).mono ?_
  rintro e w1 ⟨D, rfl, hD, hx1, hh1⟩
  have hs1 := hx1.size
  clear hA hlt hl
  go_wp2_with fail
  refine Calls.mono (made_any D 8 16 6 2 w1 hh1 (by omega) (by omega) (by omega) (by omega) (by omega) (by omega)) ?_
  rintro e w2 ⟨v, c, real, A3, c3, rfl, hc, hI, hM, hb2, hh2⟩
  have x2 := hx1.then_bel (by omega) hb2
  have hsz := hM.sized1 (by omega) (by omega)
  have h0 := hM.check (by decide) (by decide) (by omega) (by omega) (by omega)
  have hev := checkC_ev h0
  obtain ⟨A1, c1, A2, c2, rfl, hB, hC⟩ := hc
  clear hb2 hh2 hh1 hs1 hD hM hx1 hI
  go_wp2_with fail
  have G2 := heap_alloc_new w2 (.cells #[.int .i64 c.ev, .slice A1 c.bs.length c1, .int .i64 c.wi, .slice A2 c.cl.length c2] 26)
  have xa := Ext.alloc (Ext.refl w2) (.cells #[.int .i64 c.ev, .slice A1 c.bs.length c1, .int .i64 c.wi, .slice A2 c.cl.length c2] 26)
  generalize hW3 : w2.alloc (.cells #[.int .i64 c.ev, .slice A1 c.bs.length c1, .int .i64 c.wi, .slice A2 c.cl.length c2] 26) = W3 at G2 xa ⊢
  clear hW3
  obtain ⟨Bc, hBc⟩ : ∃ Bc, w2.heap.size = Bc := ⟨_, rfl⟩
  rw [hBc] at G2 ⊢
  clear hBc
  have hc3 : CsR W3 (.agg #[.int .i64 c.ev, .slice A1 c.bs.length c1, .int .i64 c.wi, .slice A2 c.cl.length c2]) c := ⟨A1, c1, A2, c2, rfl, hB.ext xa, hC.ext xa⟩
  have x3 := x2.trans xa
  have hBc3 : Bc < W3.heap.size := (Array.getElem?_eq_some_iff.1 G2).1
  have FC : Hid (∀ w', Ext W3 w' → w'.cell? ⟨Bc, 0, none⟩ = some (.int .i64 c.ev) ∧ w'.cell? ⟨Bc, 1, none⟩ = some (.slice A1 c.bs.length c1) ∧ w'.cell? ⟨Bc, 2, none⟩ = some (.int .i64 c.wi) ∧ w'.cell? ⟨Bc, 3, none⟩ = some (.slice A2 c.cl.length c2)) := fun w' h => by
    have G := (Below.block h Bc hBc3).trans G2
    exact ⟨block_cell (i := 0) G, block_cell (i := 1) G, block_cell (i := 2) G, block_cell (i := 3) G⟩
  have HC3 : Hid (∀ w', Ext W3 w' → CsR w' (.agg #[.int .i64 c.ev, .slice A1 c.bs.length c1, .int .i64 c.wi, .slice A2 c.cl.length c2]) c) := fun w' h => hc3.ext h
  have HSZ := hid hsz
  have H0 := hid h0
  have K4 := allw_any _ c W3 hc3 hsz
  rw [h0] at K4
  have HX3 := hid x3
  clear G2 hB hC x2 xa hc3 hBc3 hsz x3
  refine K4.mono ?_
  clear K4
  rintro e w4 ⟨rA, rfl, hx4, hAok, -⟩
  obtain ⟨AL, cL, rfl, hown⟩ := hAok rfl
  have HL : Hid (Bounds w4 AL c.all) := Rd.of_own hown
  clear hAok hown
  have hl52 := checkC_52 h0
  obtain ⟨N, hN⟩ : ∃ N : Nat, c.ev.toNat = N := ⟨_, rfl⟩
  have hNe : (N : Int) = c.ev := by omega
  have hN1 : (1 : Int) ≤ c.ev := hev.1
  have hN0 : ¬ c.ev ≤ 0 := by omega
  have hN2 : (0 : Int) < c.ev := by omega
  rcases told_both h0 with ⟨ht, hr⟩ | ⟨ht, hr, hcl⟩
  · have K5 := truth_any _ c w4 (HC3.out w4 hx4) HSZ.out
    have TO := truth_ok ht
    have HLEN : Hid ((truthL c).length = N) := (truthL_len c).trans hN
    have HT := hid (truth_holds ht)
    rw [ht, hN] at K5
    obtain ⟨q0, q1, q2, q3⟩ := FC.out w4 hx4
    clear h0 ht
    go_wp2_with fail
    refine K5.mono ?_
    rintro e w5 ⟨rT, rfl, hx5, hT0, -⟩
    obtain ⟨B, rfl, hB, hI⟩ := hT0 (by first | rfl | trivial)
    have hx45 := hx4.trans hx5
    clear q0 q1 q2 q3 K5 hT0
    have K6 := ring_any _ c w5 (HC3.out w5 hx45) HSZ.out
    rw [hr] at K6
    obtain ⟨q0, q1, q2, q3⟩ := FC.out w5 hx45
    clear hr
    go_wp2_with fail
    refine K6.mono ?_
    rintro e w6 ⟨rR, rfl, hx6, hR1, -⟩
    obtain rfl := hR1 (by decide)
    have hx46 := hx45.trans hx6
    clear q0 q1 q2 q3 K6 hR1
    obtain ⟨q0, q1, q2, q3⟩ := FC.out w6 hx46
    have r0 := (hI.ext hx6).at_ TO.1
    have K7 := holds_any AL cL c.all (some ⟨B, 0, none⟩) N (truthL c) w6 (HL.out.ext (hx5.trans hx6)) (.inr ⟨B, 0, rfl, fun j u hu => by
      rw [List.getElem?_map] at hu
      rcases hj : (truthL c)[j]? with _ | x
      · rw [hj] at hu; cases hu
      · rw [hj] at hu; cases hu; rw [Nat.zero_add]; exact (hI.ext hx6).at_ hj⟩) (by omega) (by rw [HLEN.out]; exact bdIn_of H0.out hNe) (fun x hx => by have := TO.2.1 x hx; omega)
    rw [HT.out, HLEN.out] at K7
    have HK7 := hid K7
    clear K7 TO hI hB q1 q2 q3
    go_wp2_with fail
    refine HK7.out.mono ?_
    rintro e w7 ⟨rfl, hx7⟩
    go_wp2_with fail
    refine (awake_any w7).mono ?_
    rintro e w8 ⟨rfl, hx8⟩
    go_wp2
    go_ret
    exact ⟨rfl, HX3.out.trans (hx46.trans (hx7.trans hx8))⟩
  · have K5 := truth_any _ c w4 (HC3.out w4 hx4) HSZ.out
    have R := hid (ring_ok h0 hcl)
    rw [ht] at K5
    obtain ⟨q0, q1, q2, q3⟩ := FC.out w4 hx4
    have hm := fun b hb => limOK_get (checkC_ok h0).2.1 (b := b) hb
    have HM := hid hm
    clear ht h0 hcl hm
    go_wp2_with fail
    refine K5.mono ?_
    rintro e w5 ⟨rT, rfl, hx5, -, hT7⟩
    obtain rfl := hT7 (by decide)
    have hx45 := hx4.trans hx5
    clear q0 q1 q2 q3 K5 hT7
    have K6 := ring_any _ c w5 (HC3.out w5 hx45) HSZ.out
    rw [hr] at K6
    obtain ⟨q0, q1, q2, q3⟩ := FC.out w5 hx45
    clear hr
    go_wp2_with fail
    refine K6.mono ?_
    rintro e w6 ⟨rR, rfl, hx6, -, hR0⟩
    obtain ⟨g, c', rfl, hI⟩ := hR0 (by first | rfl | trivial)
    have hx46 := hx45.trans hx6
    clear q0 q1 q2 q3 K6 hR0
    obtain ⟨i, b, n, ri, rb, rn, ral⟩ := R.out.round
    have r2 := R.out.two
    have r3 := R.out.in_
    have r4 := R.out.nodup
    generalize ringL c.all = L at *
    have ri0 := r3 _ (mem_of_get ri)
    obtain ⟨b1, o1, e1, d0⟩ := hI.at_ ri
    cases e1
    have hL6 := HL.out.ext (hx5.trans hx6)
    obtain ⟨b2, o2, rfl, d1, d2, d3⟩ := hL6.at_ rb
    have hll := R.out.len
    have K7 := twice_any (some ⟨g, 0, none⟩) c' L w6 hI (by omega) r4 (fun x hx => by have := r3 x hx; omega)
    have K8 := fun w' (h : Ext w6 w') => sum_any (some ⟨b2, o2, none⟩) cL c.all (some ⟨g, 0, none⟩) c' L b.f b.f b.f n w' (hL6.ext h) (hI.ext h) (by omega) (by omega) (fun x hx => by have := HM.out x hx; omega) r3 ral
    have FX : Hid (∀ w', Ext w6 w' → w'.cell? ⟨g, 0, none⟩ = some (.int .i64 (i : Int)) ∧ w'.cell? ⟨b2, o2 + i * 3, none⟩ = some (.int .i64 b.f)) := fun w' h => ⟨h.cell (by simpa using d0), h.cell d1⟩
    have HK8 := hid K8
    have l1 : ¬ (L.length : Int) < 2 := by omega
    have l2 : (0 : Int) < (L.length : Int) := by omega
    have l3 : ¬ (L.length : Int) ≤ 0 := by omega
    have l4 : ¬ (i : Int) < 0 := by omega
    have l5 : (i : Int) < (c.all.length : Int) := by omega
    have l6 : ¬ (c.all.length : Int) ≤ (i : Int) := by omega
    clear d0 d1 d2 d3 hI hL6 ri rb ral r3 r4 ri0 R HM
    go_wp2_with fail
    refine K7.mono ?_
    rintro e w7 ⟨rfl, hx7⟩
    clear K7
    obtain ⟨f0, f1⟩ := FX.out w7 hx7
    have K9 := HK8.out w7 hx7
    rw [beq_self_eq_true] at K9
    go_wp2_with fail
    refine K9.mono ?_
    rintro e w8 ⟨rfl, hx8⟩
    clear K9 f0 f1
    go_wp2_with fail
    refine (awake_any w8).mono ?_
    rintro e w9 ⟨rfl, hx9⟩
    go_wp2
    go_ret
    exact ⟨rfl, HX3.out.trans (hx46.trans (hx7.trans (hx8.trans hx9)))⟩
end Go.Proofs.Ytgnjhaomlbkgcaa
