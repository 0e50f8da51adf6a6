/- The walk of BoilMeat. Printed by my gen_bmeaw.py. -/
import Derived.Test.YtjnobdcbbboeeaaH3
import Derived.Test.YtjnobdcbbboeeaaH6
import Derived.Test.YtjnobdcbbboeeaaBLwc
import Derived.Test.YtjnobdcbbboeeaaHa
import Derived.Deep.DeepCutAuto
import Derived.Deep.CutBlock
import Derived.Deep.QuietTactic
import Derived.Deep.RegionHeld3
import Derived.BigQuiet
namespace Go.Proofs.Ytjnobdcbbboeeaa
open Go Go.RowKit Go.Shelf
set_option linter.unusedVariables false
set_option linter.unusedSimpArgs false

theorem lfits_any (L U : Rt) (BL BU : Nat) (k n : Int) (w : World) (hL : (0 ≤ L.1 ∧ L.1 ≤ 1000000) ∧ 0 ≤ L.2 ∧ L.2 ≤ 1000000) (hU : (0 ≤ U.1 ∧ U.1 ≤ 1000000) ∧ 0 ≤ U.2 ∧ U.2 ≤ 1000000) (hk : -1 ≤ k ∧ k ≤ 1000001) (hn : 0 ≤ n ∧ n ≤ 1000)
    (l0 : w.cell? ⟨BL, 0, none⟩ = some (.int .i64 L.1)) (l1 : w.cell? ⟨BL, 1, none⟩ = some (.int .i64 L.2)) (u0 : w.cell? ⟨BU, 0, none⟩ = some (.int .i64 U.1)) (u1 : w.cell? ⟨BU, 1, none⟩ = some (.int .i64 U.2)) :
    Calls Try.prog 22 #[.int .i64 k, .int .i64 n, .pointer (some ⟨BL, 0, none⟩), .pointer (some ⟨BU, 0, none⟩)] w fun e w' => e = .returned (.bool (fitsB L U k n)) ∧ Ext w w' := by
  have q1 : -1000000 ≤ k * L.2 ∧ k * L.2 ≤ 1000001000000 := by
    constructor
    · have := Int.mul_le_mul_of_nonneg_right hk.1 hL.2.1; omega
    · exact Int.le_trans (Int.mul_le_mul hk.2 hL.2.2 hL.2.1 (by decide)) (by decide)
  have q2 : -1000000 ≤ k * U.2 ∧ k * U.2 ≤ 1000001000000 := by
    constructor
    · have := Int.mul_le_mul_of_nonneg_right hk.1 hU.2.1; omega
    · exact Int.le_trans (Int.mul_le_mul hk.2 hU.2.2 hU.2.1 (by decide)) (by decide)
  have q3 : 0 ≤ L.1 * n ∧ L.1 * n ≤ 1000000000 := ⟨Int.mul_nonneg hL.1.1 hn.1, Int.le_trans (Int.mul_le_mul hL.1.2 hn.2 hn.1 (by decide)) (by decide)⟩
  have q4 : 0 ≤ U.1 * n ∧ U.1 * n ≤ 1000000000 := ⟨Int.mul_nonneg hU.1.1 hn.1, Int.le_trans (Int.mul_le_mul hU.1.2 hn.2 hn.1 (by decide)) (by decide)⟩
  have H1 : IntKind.i64.wrap (k * L.2) = k * L.2 := IntWalk.i64_in _ ⟨by omega, by omega⟩
  have H2 : IntKind.i64.wrap (k * U.2) = k * U.2 := IntWalk.i64_in _ ⟨by omega, by omega⟩
  have H3 : IntKind.i64.wrap (L.1 * n) = L.1 * n := IntWalk.i64_in _ ⟨by omega, by omega⟩
  have H4 : IntKind.i64.wrap (U.1 * n) = U.1 * n := IntWalk.i64_in _ ⟨by omega, by omega⟩
  have HV : Hid (fitsB L U k n = (decide (L.1 * n ≤ k * L.2) && decide (k * U.2 ≤ U.1 * n))) := rfl
  rw [HV.out]
  clear q1 q2 q3 q4 HV
  by_cases h1 : L.1 * n ≤ k * L.2
  · by_cases h2 : k * U.2 ≤ U.1 * n
    · have HB := hid (show (decide (L.1 * n ≤ k * L.2) && decide (k * U.2 ≤ U.1 * n)) = true by simp [h1, h2])
      rw [HB.out]
      go_enter Try.func22, Try.ntmps22
      go_wp2
      go_ret
      exact ⟨rfl, Ext.refl _⟩
    · have HB := hid (show (decide (L.1 * n ≤ k * L.2) && decide (k * U.2 ≤ U.1 * n)) = false by simp [h1, h2])
      rw [HB.out]
      go_enter Try.func22, Try.ntmps22
      go_wp2
      go_ret
      exact ⟨by first | rfl | (simp [h1, h2]; done) | (simp; omega), Ext.refl _⟩
  · have HB := hid (show (decide (L.1 * n ≤ k * L.2) && decide (k * U.2 ≤ U.1 * n)) = false by simp [h1])
    rw [HB.out]
    go_enter Try.func22, Try.ntmps22
    go_wp2
    go_ret
    exact ⟨rfl, Ext.refl _⟩
theorem bnd_small {h : Hs} {m : Int} (k : HsOK h) : ((0 ≤ (bndL h m).1 ∧ (bndL h m).1 ≤ 1000000) ∧ 0 ≤ (bndL h m).2 ∧ (bndL h m).2 ≤ 1000000) ∧ (0 ≤ (bndU h m).1 ∧ (bndU h m).1 ≤ 1000000) ∧ 0 ≤ (bndU h m).2 ∧ (bndU h m).2 ≤ 1000000 := by
  by_cases e : bndE h m = 0
  · have b := bnd_ok k e
    have l := b.le1000 k
    have p1 := b.pl
    have p2 := b.ph
    unfold Rpos at p1 p2
    omega
  · have e1 : bndL h m = (0, 0) := by unfold bndL; rw [if_neg e]
    have e2 : bndU h m = (0, 0) := by unfold bndU; rw [if_neg e]
    rw [e1, e2]
    decide
set_option maxRecDepth 100000 in
set_option maxHeartbeats 16000000 in
theorem boilmeat_any (A : Option Addr) (l : List Int) (cap : Nat) (a : Int) (b : Int) (c : Int) (w : World) (hA : Bytes w A l) (hl : ∀ x ∈ l, 0 ≤ x ∧ x ≤ 255) (hlt : ∀ x, A = some x → l = [] ∨ x.block < w.heap.size) (hn : l.length ≤ 9223372036854775807) (ha : 0 ≤ a ∧ a ≤ 255) (hb : 0 ≤ b ∧ b ≤ 65535) (hc : 0 ≤ c ∧ c ≤ 65535) :
    Calls Try.prog 4 #[.slice A l.length cap, .int .u8 a, .int .u16 b, .int .u16 c] w fun e w' => e = .returned (.bool true) ∧ Below w.heap.size w w' := by
  obtain ⟨a, rfl⟩ : ∃ n : Nat, a = n := ⟨a.toNat, by omega⟩
  obtain ⟨b, rfl⟩ : ∃ n : Nat, b = n := ⟨b.toNat, by omega⟩
  obtain ⟨c, rfl⟩ : ∃ n : Nat, c = n := ⟨c.toNat, by omega⟩
  go_enter Try.func4, Try.ntmps4
  go_wp2_with fail
  refine (pile_any A l cap w hA hl hlt hn).mono ?_
  rintro e w1 ⟨D, rfl, hD, x1, hh1⟩
  go_wp2_with fail
  refine (made_any D 8 9 0 w1 hh1 (by decide) (by decide) (by decide) (by decide)).mono ?_
  rintro e w2 ⟨h, rl, Ah, ch, A2, c2, rfl, HM, hoh, hor, hb2, -⟩
  have x2 : Ext w w2 := Bel.extw x1 hb2 hD
  have k := HM.ok
  have HMD := hid HM
  have hr2 : HsR w2 (hval h Ah ch) h := hsr_own hoh
  have hOR := hid hor
  clear hoh hor hb2 hh1 x1 HM
  unfold hval
  go_upto_region 2 with fail
  obtain ⟨P2, hP2⟩ : ∃ P2, w2.alloc (.cells #[.int .i64 h.mo, .int .i64 h.pk, .slice Ah h.ws.length ch] 25) = P2 := ⟨_, rfl⟩
  have xp : Ext w2 P2 := by rw [← hP2]; exact Ext.alloc (Ext.refl _) _
  have bp : P2.heap[w2.heap.size]? = some (.cells #[.int .i64 h.mo, .int .i64 h.pk, .slice Ah h.ws.length ch] 25 (0, 0)) := by rw [← hP2]; exact heap_alloc_new _ _
  try rw [hP2]
  clear hP2
  have hx2 : Ext w P2 := x2.trans xp
  have FH : Hid (∀ w', Ext P2 w' → w'.cell? ⟨w2.heap.size, 0, none⟩ = some (.int .i64 h.mo) ∧ w'.cell? ⟨w2.heap.size, 1, none⟩ = some (.int .i64 h.pk) ∧ w'.cell? ⟨w2.heap.size, 2, none⟩ = some (.slice Ah h.ws.length ch)) := fun w' hx => by
    obtain ⟨q0, q1, q2, -⟩ := house_cells bp
    exact ⟨hx.cell q0, hx.cell q1, hx.cell q2⟩
  have HR : Hid (∀ w', Ext P2 w' → HsR w' (hval h Ah ch) h) := fun w' hx => (hr2.ext xp).ext hx
  have hs : h.sized := by unfold Hs.sized; have := k.len; omega
  have HK := hid k
  have hmo := k.mo
  have hpk := k.pk
  have hlen := k.len
  have hmz : h.mo ≠ 0 := by omega
  clear k bp hr2 x2 xp
  obtain ⟨N, hN⟩ : ∃ N : Nat, h.ws.length = N := ⟨_, rfl⟩
  have HN := hid hN
  rw [hN] at FH hlen ⊢
  clear hN
  obtain ⟨c0, c1, c2'⟩ := FH.out P2 (Ext.refl _)
  go_upto_region 3 with fail
  obtain ⟨X, hX⟩ : ∃ X, (a : Int) % h.mo = X := ⟨_, rfl⟩
  obtain ⟨n, hn'⟩ : ∃ X, (b : Int) % 1000 = X := ⟨_, rfl⟩
  obtain ⟨g, hg'⟩ : ∃ X, (c : Int) % 1000 = X := ⟨_, rfl⟩
  have hXr : 0 ≤ X ∧ X < h.mo := by rw [← hX]; exact ⟨Int.emod_nonneg _ hmz, Int.emod_lt_of_pos _ (by omega)⟩
  have hnr : 0 ≤ n ∧ n < 1000 := by omega
  have hgr : 0 ≤ g ∧ g < 1000 := by omega
  try rw [hX, hn', hg']
  clear hX hn' hg'
  obtain ⟨HPL0, HKE1, HKE2⟩ := meat_plain HMD.out hXr hnr hgr
  have hsm := bnd_small (m := X) HK.out
  have KB : Hid (∀ w', Ext P2 w' → _) := fun w' hx => bounds_any _ h X w' (HR.out w' hx) hs
  have KM : Hid (∀ s w', Ext P2 w' → _) := fun s w' hx => meat_any _ h X s w' (HR.out w' hx) hs
  have KK : Hid (∀ s x w', Ext P2 w' → _) := fun s x w' hx => kept_any _ h X s x w' (HR.out w' hx) hs
  have K1 := hid (KB.out P2 (Ext.refl _))
  have K2 := KM.out n
  have K3 := KM.out (n + 1)
  have K4 := KK.out n g
  have K5 := KK.out n (g + 1)
  rw [HKE1] at K4
  rw [HKE2] at K5
  obtain ⟨L, hL⟩ : ∃ L, bndL h X = L := ⟨_, rfl⟩
  obtain ⟨U, hU⟩ : ∃ L, bndU h X = L := ⟨_, rfl⟩
  obtain ⟨E, hE⟩ : ∃ L, bndE h X = L := ⟨_, rfl⟩
  obtain ⟨F, hF⟩ : ∃ L, meatE h X n = L := ⟨_, rfl⟩
  obtain ⟨G, hG⟩ : ∃ L, meatE h X (n + 1) = L := ⟨_, rfl⟩
  obtain ⟨SL, hSL⟩ : ∃ L, meatL h X n = L := ⟨_, rfl⟩
  obtain ⟨SU, hSU⟩ : ∃ L, meatU h X n = L := ⟨_, rfl⟩
  obtain ⟨ML, hML⟩ : ∃ L, meatL h X (n + 1) = L := ⟨_, rfl⟩
  obtain ⟨MU, hMU⟩ : ∃ L, meatU h X (n + 1) = L := ⟨_, rfl⟩
  obtain ⟨V1, hV1⟩ : ∃ L, keptV h X n g = L := ⟨_, rfl⟩
  obtain ⟨V2, hV2⟩ : ∃ L, keptV h X n (g + 1) = L := ⟨_, rfl⟩
  rw [hL, hU, hE] at K1
  rw [hF, hSL, hSU] at K2
  rw [hG, hML, hMU] at K3
  rw [hF, hV1] at K4
  rw [hF, hV2] at K5
  rw [hL, hU, hE, hF, hG, hSL, hSU, hML, hMU, hV1, hV2] at HPL0
  rw [hL, hU] at hsm
  have HPL := hid HPL0
  have HS := hid hsm
  have HK2 := hid K2
  have HK3 := hid K3
  have HK4 := hid K4
  have HK5 := hid K5
  unfold hval at K1 HK2 HK3 HK4 HK5
  unfold rval at K1
  rw [HN.out] at K1 HK2 HK3 HK4 HK5
  clear hL hU hE hF hG hSL hSU hML hMU hV1 hV2 K2 K3 K4 K5 KB KM KK HPL0 hsm
  obtain ⟨c0, c1, c2'⟩ := FH.out P2 (Ext.refl _)
  go_wp2_with fail
  refine K1.out.mono ?_
  rintro e w3 ⟨rfl, hx3⟩
  clear K1 c0 c1 c2'
  go_upto_region 4 with fail
  obtain ⟨P3, hP3⟩ : ∃ P3, (w3.alloc (.cells #[.int .i64 L.1, .int .i64 L.2] 43)).alloc (.cells #[.int .i64 U.1, .int .i64 U.2] 43) = P3 := ⟨_, rfl⟩
  have xp3 : Ext w3 P3 := by rw [← hP3]; exact (Ext.refl _).alloc _ |>.alloc _
  have bp3 : P3.heap[w3.heap.size]? = some (.cells #[.int .i64 L.1, .int .i64 L.2] 43 (0, 0)) := by rw [← hP3]; exact (Below.heap_alloc _ _ _ (by simp)).trans (heap_alloc_new w3 _)
  have bq3 : P3.heap[w3.heap.size + 1]? = some (.cells #[.int .i64 U.1, .int .i64 U.2] 43 (0, 0)) := by
    rw [← hP3]
    have q := heap_alloc_new (w3.alloc (.cells #[.int .i64 L.1, .int .i64 L.2] 43)) (.cells #[.int .i64 U.1, .int .i64 U.2] 43)
    rw [World.size_alloc] at q
    exact q
  have l0 := blk_cells (xs := [.int .i64 L.1, .int .i64 L.2]) bp3 0 _ rfl
  have l1 := blk_cells (xs := [.int .i64 L.1, .int .i64 L.2]) bp3 1 _ rfl
  have u0 := blk_cells (xs := [.int .i64 U.1, .int .i64 U.2]) bq3 0 _ rfl
  have u1 := blk_cells (xs := [.int .i64 U.1, .int .i64 U.2]) bq3 1 _ rfl
  try rw [hP3]
  clear hP3 bp3 bq3
  have hx3' := hx3.trans xp3
  clear hx3 xp3
  obtain ⟨c0, c1, c2'⟩ := FH.out P3 hx3'
  go_wp2_with fail
  refine (HK2.out P3 hx3').mono ?_
  rintro e w4 ⟨rfl, hx4⟩
  clear HK2 c0 c1 c2'
  go_upto_region 5 with fail
  obtain ⟨P4, hP4⟩ : ∃ P4, w4.alloc (.cells #[.int .i64 SL, .int .i64 SU] 47) = P4 := ⟨_, rfl⟩
  have xp4 : Ext w4 P4 := by rw [← hP4]; exact Ext.alloc (Ext.refl _) _
  have bp4 : P4.heap[w4.heap.size]? = some (.cells #[.int .i64 SL, .int .i64 SU] 47 (0, 0)) := by rw [← hP4]; exact heap_alloc_new _ _
  have s0 := blk_cells (xs := [.int .i64 SL, .int .i64 SU]) bp4 0 _ rfl
  have s1 := blk_cells (xs := [.int .i64 SL, .int .i64 SU]) bp4 1 _ rfl
  try rw [hP4]
  clear hP4 bp4
  have hx34 := hx4.trans xp4
  have hx4' := hx3'.trans hx34
  have l0 := hx34.cell l0
  have l1 := hx34.cell l1
  have u0 := hx34.cell u0
  have u1 := hx34.cell u1
  clear hx4 xp4 hx34 hx3'
  obtain ⟨c0, c1, c2'⟩ := FH.out P4 hx4'
  go_wp2_with fail
  refine (HK3.out P4 hx4').mono ?_
  rintro e w5 ⟨rfl, hx5⟩
  clear HK3 c0 c1 c2'
  go_upto_region 6 with fail
  obtain ⟨P5, hP5⟩ : ∃ P5, w5.alloc (.cells #[.int .i64 ML, .int .i64 MU] 47) = P5 := ⟨_, rfl⟩
  have xp5 : Ext w5 P5 := by rw [← hP5]; exact Ext.alloc (Ext.refl _) _
  have bp5 : P5.heap[w5.heap.size]? = some (.cells #[.int .i64 ML, .int .i64 MU] 47 (0, 0)) := by rw [← hP5]; exact heap_alloc_new _ _
  have t0 := blk_cells (xs := [.int .i64 ML, .int .i64 MU]) bp5 0 _ rfl
  have t1 := blk_cells (xs := [.int .i64 ML, .int .i64 MU]) bp5 1 _ rfl
  try rw [hP5]
  clear hP5 bp5
  have hx45 := hx5.trans xp5
  have hx5' := hx4'.trans hx45
  have l0 := hx45.cell l0
  have l1 := hx45.cell l1
  have u0 := hx45.cell u0
  have u1 := hx45.cell u1
  have s0 := hx45.cell s0
  have s1 := hx45.cell s1
  clear hx5 xp5 hx45 hx4'
  obtain ⟨c0, c1, c2'⟩ := FH.out P5 hx5'
  go_wp2_with fail
  refine (HK4.out P5 hx5').mono ?_
  rintro e w6 ⟨rfl, hx6⟩
  have hx6' := hx5'.trans hx6
  have s0 := hx6.cell s0
  have s1 := hx6.cell s1
  have t0 := hx6.cell t0
  have t1 := hx6.cell t1
  have l0 := hx6.cell l0
  have l1 := hx6.cell l1
  have u0 := hx6.cell u0
  have u1 := hx6.cell u1
  clear HK4 c0 c1 c2' hx6 hx5'
  obtain ⟨c0, c1, c2'⟩ := FH.out w6 hx6'
  go_wp2_with fail
  refine (HK5.out w6 hx6').mono ?_
  rintro e w7 ⟨rfl, hx7⟩
  have hx7' := hx6'.trans hx7
  have s0 := hx7.cell s0
  have s1 := hx7.cell s1
  have t0 := hx7.cell t0
  have t1 := hx7.cell t1
  have l0 := hx7.cell l0
  have l1 := hx7.cell l1
  have u0 := hx7.cell u0
  have u1 := hx7.cell u1
  clear HK5 c0 c1 c2' hx7 hx6'
  go_upto_region 8 with fail
  rcases HPL.out with ⟨p1, p2, p3⟩ | ⟨p1, p2, p3, p4⟩ | ⟨p1, p2, p3, ⟨f1, f2, f3, f4⟩, ⟨r1, r2, r3⟩, p4, p5, p6, p7⟩
  · subst p1
    subst p2
    subst p3
    go_wp2_with fail
    refine (awake_any w7).mono ?_
    rintro e w8 ⟨rfl, hx8⟩
    go_wp2
    go_ret
    exact ⟨rfl, hx2.trans (hx7'.trans hx8)⟩
  · subst p1
    subst p2
    have HF := hid p4
    have hGG : (G != 0 && G != 8) = false := by rcases p3 with rfl | rfl <;> rfl
    clear HPL p4
    have HLF : Hid (∀ (q : Int) w', Ext w7 w' → -1 ≤ q ∧ q ≤ 1000001 → Calls Try.prog 22 #[.int .i64 q, .int .i64 n, .pointer (some ⟨w3.heap.size, 0, none⟩), .pointer (some ⟨w3.heap.size + 1, 0, none⟩)] w' fun e w2 => e = .returned (.bool (fitsB L U q n)) ∧ Ext w' w2) := fun q w' hx hq => lfits_any L U _ _ q n w' HS.out.1 HS.out.2 hq (by omega) (hx.cell l0) (hx.cell l1) (hx.cell u0) (hx.cell u1)
    have fend := enters_of Try.func22 (by kernel_rfl) rfl
    rcases p3 with rfl | rfl
    all_goals
      go_wp2_with fail
      go_loopw [137] (fun i wr => ∃ q : Nat, i = .int .i64 (q : Int) ∧ q ≤ 2000 ∧ Ext w7 wr) (fun i _ => 2000 - (intOf i).toNat)
      case atStart => exact ⟨0, rfl, by decide, Ext.refl _⟩
      case round =>
        obtain ⟨q, rfl, hq, hxr⟩ := hrel
        by_cases hlt : q < 2000
        · have hlt' : (q : Int) < 2000 := by omega
          have hfq := HF.out q (by omega)
          have KC := HLF.out q wr hxr (by omega)
          rw [hfq] at KC
          have HKC := hid KC
          clear KC hfq
          go_wp2_with fail
          refine HKC.out.mono ?_
          rintro e w8 ⟨rfl, hx8⟩
          clear HKC
          go_wp2
          go_roundw
          case rel => exact ⟨q + 1, by go_num, by omega, hxr.trans hx8⟩
          case measure => simp [intOf]; omega
        · have hlt' : ¬ (q : Int) < 2000 := by omega
          go_wp2_with fail
          refine (awake_any wr).mono ?_
          rintro e w8 ⟨rfl, hx8⟩
          go_wp2
          go_ret
          exact ⟨rfl, hx2.trans (hx7'.trans (hxr.trans hx8))⟩
  · subst p1
    subst p2
    clear HPL
    have HLF : Hid (∀ (q : Int) w', Ext w7 w' → -1 ≤ q ∧ q ≤ 1000001 → Calls Try.prog 22 #[.int .i64 q, .int .i64 n, .pointer (some ⟨w3.heap.size, 0, none⟩), .pointer (some ⟨w3.heap.size + 1, 0, none⟩)] w' fun e w2 => e = .returned (.bool (fitsB L U q n)) ∧ Ext w' w2) := fun q w' hx hq => lfits_any L U _ _ q n w' HS.out.1 HS.out.2 hq (by omega) (hx.cell l0) (hx.cell l1) (hx.cell u0) (hx.cell u1)
    have fend := enters_of Try.func22 (by kernel_rfl) rfl
    have HP4 := hid p4
    have HP5 := hid p5
    have HP6 := hid p6
    have HP7 := hid p7
    have HF1 := hid f1
    have HF2 := hid f2
    have HF3 := hid f3
    have HF4 := hid f4
    have HR3 := hid (show 0 ≤ SL ∧ SL ≤ SU ∧ SU ≤ 1000000 from ⟨r1, r2, r3⟩)
    clear p4 p5 p6 p7 f1 f2 f3 f4
    have hSLU : ¬ SU < SL := by omega
    have hV1 : (if 0 < SL - g then SL - g else 0) = V1 := by rw [HP6.out, max_if]
    have hV2 : (if 0 < V1 - 1 then V1 - 1 else 0) = V2 := by rw [HP7.out, max_if]
    have hV1r : 0 ≤ V1 ∧ V1 ≤ 1000000 := by rw [← hV1]; split <;> omega
    have HV1 := hid hV1
    have HV2 := hid hV2
    have HV1m : Hid (max 0 (SL - g) = V1) := HP6.out.symm
    have HV2m : Hid (max 0 (V1 - 1) = V2) := HP7.out.symm
    clear hV1 hV2 HP6 HP7
    rcases p3 with rfl | rfl
    · obtain ⟨m1, m2⟩ := HP4.out rfl
      have m1' : ¬ ML < SL := by omega
      have m2' : ¬ MU < SU := by omega
      clear HP4 m1 m2
      go_upto_region 21 with fail
      have KC1 := HLF.out SL w7 (Ext.refl _) (by omega)
      rw [HF1.out] at KC1
      go_wp2_with fail
      refine KC1.mono ?_
      rintro e w8 ⟨rfl, hx8⟩
      clear KC1
      have s0 := hx8.cell s0
      have s1 := hx8.cell s1
      have t0 := hx8.cell t0
      have t1 := hx8.cell t1
      have KC2 := HLF.out SU w8 hx8 (by omega)
      rw [HF2.out] at KC2
      go_wp2_with fail
      refine KC2.mono ?_
      rintro e w9 ⟨rfl, hx9⟩
      clear KC2
      have hxx9 := hx8.trans hx9
      have s0 := hx9.cell s0
      have s1 := hx9.cell s1
      have t0 := hx9.cell t0
      have t1 := hx9.cell t1
      have KC3 := HLF.out (SL - 1) w9 hxx9 (by omega)
      rw [HF3.out] at KC3
      go_wp2_with fail
      refine KC3.mono ?_
      rintro e w10 ⟨rfl, hx10⟩
      clear KC3
      have hxx10 := hxx9.trans hx10
      have s0 := hx10.cell s0
      have s1 := hx10.cell s1
      have t0 := hx10.cell t0
      have t1 := hx10.cell t1
      have KC4 := HLF.out (SU + 1) w10 hxx10 (by omega)
      rw [HF4.out] at KC4
      go_wp2_with fail
      refine KC4.mono ?_
      rintro e w11 ⟨rfl, hx11⟩
      clear KC4
      have hxx11 := hxx10.trans hx11
      have s0 := hx11.cell s0
      have s1 := hx11.cell s1
      have t0 := hx11.cell t0
      have t1 := hx11.cell t1
      go_upto_region 23 with fail
      go_cut [211] (fun s211 wx => s211 = .bool false ∧ w11 = wx)
      case first =>
        by_cases hn0 : n = 0
        · obtain ⟨z1, z2, z3⟩ := HP5.out hn0
          have hnb : (n == 0) = true := by simpa using hn0
          have hb1 : (SL == 0) = true := by simpa using z1
          have hb2 : (SU == 0) = true := by simpa using z2
          have hb3 : (V1 == 0) = true := by simpa using z3
          have HB4 : Hid ((V1 != 0) = false) := by rw [z3]; rfl
          clear hn0 z1 z2 z3
          go_wp2_with fail
          go_meet
          exact ⟨by first | rfl | exact congrArg Value.bool HB4.out, rfl⟩
        · have hnb : (n == 0) = false := by simpa using hn0
          clear hn0
          go_wp2_with fail
          go_meet
          exact ⟨rfl, rfl⟩
      case rest =>
        obtain ⟨rfl, hwc⟩ := hcut
        subst hwc
        have hV1 := HV1.out
        have hV2 := HV2.out
        have hV1m := HV1m.out
        have hV2m := HV2m.out
        go_wp2_with fail
        refine (awake_any w11).mono ?_
        rintro e w12 ⟨rfl, hx12⟩
        go_wp2
        go_ret
        exact ⟨rfl, hx2.trans (hx7'.trans (hxx11.trans hx12))⟩
    · clear HP4
      go_upto_region 21 with fail
      have KC1 := HLF.out SL w7 (Ext.refl _) (by omega)
      rw [HF1.out] at KC1
      go_wp2_with fail
      refine KC1.mono ?_
      rintro e w8 ⟨rfl, hx8⟩
      clear KC1
      have s0 := hx8.cell s0
      have s1 := hx8.cell s1
      have t0 := hx8.cell t0
      have t1 := hx8.cell t1
      have KC2 := HLF.out SU w8 hx8 (by omega)
      rw [HF2.out] at KC2
      go_wp2_with fail
      refine KC2.mono ?_
      rintro e w9 ⟨rfl, hx9⟩
      clear KC2
      have hxx9 := hx8.trans hx9
      have s0 := hx9.cell s0
      have s1 := hx9.cell s1
      have t0 := hx9.cell t0
      have t1 := hx9.cell t1
      have KC3 := HLF.out (SL - 1) w9 hxx9 (by omega)
      rw [HF3.out] at KC3
      go_wp2_with fail
      refine KC3.mono ?_
      rintro e w10 ⟨rfl, hx10⟩
      clear KC3
      have hxx10 := hxx9.trans hx10
      have s0 := hx10.cell s0
      have s1 := hx10.cell s1
      have t0 := hx10.cell t0
      have t1 := hx10.cell t1
      have KC4 := HLF.out (SU + 1) w10 hxx10 (by omega)
      rw [HF4.out] at KC4
      go_wp2_with fail
      refine KC4.mono ?_
      rintro e w11 ⟨rfl, hx11⟩
      clear KC4
      have hxx11 := hxx10.trans hx11
      have s0 := hx11.cell s0
      have s1 := hx11.cell s1
      have t0 := hx11.cell t0
      have t1 := hx11.cell t1
      go_upto_region 23 with fail
      go_cut [211] (fun s211 wx => s211 = .bool false ∧ w11 = wx)
      case first =>
        by_cases hn0 : n = 0
        · obtain ⟨z1, z2, z3⟩ := HP5.out hn0
          have hnb : (n == 0) = true := by simpa using hn0
          have hb1 : (SL == 0) = true := by simpa using z1
          have hb2 : (SU == 0) = true := by simpa using z2
          have hb3 : (V1 == 0) = true := by simpa using z3
          have HB4 : Hid ((V1 != 0) = false) := by rw [z3]; rfl
          clear hn0 z1 z2 z3
          go_wp2_with fail
          go_meet
          exact ⟨by first | rfl | exact congrArg Value.bool HB4.out, rfl⟩
        · have hnb : (n == 0) = false := by simpa using hn0
          clear hn0
          go_wp2_with fail
          go_meet
          exact ⟨rfl, rfl⟩
      case rest =>
        obtain ⟨rfl, hwc⟩ := hcut
        subst hwc
        have hV1 := HV1.out
        have hV2 := HV2.out
        have hV1m := HV1m.out
        have hV2m := HV2m.out
        go_wp2_with fail
        refine (awake_any w11).mono ?_
        rintro e w12 ⟨rfl, hx12⟩
        go_wp2
        go_ret
        exact ⟨rfl, hx2.trans (hx7'.trans (hxx11.trans hx12))⟩
end Go.Proofs.Ytjnobdcbbboeeaa
