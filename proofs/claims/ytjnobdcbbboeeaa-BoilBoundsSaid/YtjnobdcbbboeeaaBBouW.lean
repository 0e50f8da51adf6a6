/- The walk of BoilBounds. Printed by my gen_bbow.py. -/
import Derived.Test.YtjnobdcbbboeeaaBOwnL
import Derived.Test.YtjnobdcbbboeeaaBBouS
import Derived.Test.YtjnobdcbbboeeaaH2
import Derived.Test.YtjnobdcbbboeeaaHa
import Derived.Test.YtjnobdcbbboeeaaH6
import Derived.OwnWalk
import Derived.Deep.AppendLies
import Derived.Deep.DeepCutAuto
import Derived.Deep.CutBlock
import Derived.Deep.QuietTactic
import Derived.Deep.RegionHeld3
import Derived.BigQuiet
namespace Go.Proofs.Ytjnobdcbbboeeaa
open Go Go.RowKit Go.Shelf
set_option linter.unusedVariables false
set_option linter.unusedSimpArgs false

set_option maxRecDepth 100000 in
set_option maxHeartbeats 16000000 in
theorem boilbounds_any (A : Option Addr) (l : List Int) (cap : Nat) (Ab : Option Addr) (lb : List Int) (capb : Nat) (a : Int) (w : World) (hA : Bytes w A l) (hl : ∀ x ∈ l, 0 ≤ x ∧ x ≤ 255) (hlt : ∀ x, A = some x → l = [] ∨ x.block < w.heap.size) (hn : l.length ≤ 9223372036854775807) (hAb : Bytes w Ab lb) (hlb : ∀ x ∈ lb, 0 ≤ x ∧ x ≤ 255) (hltb : ∀ x, Ab = some x → lb = [] ∨ x.block < w.heap.size) (hnb : lb.length ≤ 9223372036854775807) (ha : 0 ≤ a ∧ a ≤ 255) :
    Calls Try.prog 5 #[.slice A l.length cap, .slice Ab lb.length capb, .int .u8 a] w fun e w' => e = .returned (.bool true) ∧ Below w.heap.size w w' := by
  obtain ⟨a, rfl⟩ : ∃ n : Nat, a = n := ⟨a.toNat, by omega⟩
  go_enter Try.func5, Try.ntmps5
  go_wp2_with fail
  refine (pile_any A l cap w hA hl hlt hn).mono ?_
  rintro e w1 ⟨D, rfl, hD, x1, hh1⟩
  go_wp2_with fail
  refine (made_any D 8 10 0 w1 hh1 (by decide) (by decide) (by decide) (by decide)).mono ?_
  rintro e w2 ⟨h, rl, Ah, ch, A2, c2, rfl, HM, hoh, hor, hb2, -⟩
  have x2 : Ext w w2 := Bel.extw x1 hb2 hD
  have k := HM.ok
  have HMD := hid HM
  have hr2 : HsR w2 (hval h Ah ch) h := hsr_own hoh
  have hOR := hid hor
  clear hoh hor hb2 hh1 x1 HM
  unfold hval
  go_upto_region 2 with fail
  obtain ⟨P2, hP2⟩ : ∃ P2, w2.alloc (.cells #[.int .i64 h.mo, .int .i64 h.pk, .slice Ah h.ws.length ch] 25) = P2 := ⟨_, rfl⟩
  have xp : Ext w2 P2 := by rw [← hP2]; exact Ext.alloc (Ext.refl _) _
  have bp : P2.heap[w2.heap.size]? = some (.cells #[.int .i64 h.mo, .int .i64 h.pk, .slice Ah h.ws.length ch] 25 (0, 0)) := by rw [← hP2]; exact heap_alloc_new _ _
  try rw [hP2]
  clear hP2
  have hx2 : Ext w P2 := x2.trans xp
  have FH : Hid (∀ w', Ext P2 w' → w'.cell? ⟨w2.heap.size, 0, none⟩ = some (.int .i64 h.mo) ∧ w'.cell? ⟨w2.heap.size, 1, none⟩ = some (.int .i64 h.pk) ∧ w'.cell? ⟨w2.heap.size, 2, none⟩ = some (.slice Ah h.ws.length ch)) := fun w' hx => by
    obtain ⟨q0, q1, q2, -⟩ := house_cells bp
    exact ⟨hx.cell q0, hx.cell q1, hx.cell q2⟩
  have HR : Hid (∀ w', Ext P2 w' → HsR w' (hval h Ah ch) h) := fun w' hx => (hr2.ext xp).ext hx
  have hs : h.sized := by unfold Hs.sized; have := k.len; omega
  have HK := hid k
  have hmo := k.mo
  have hpk := k.pk
  have hlen := k.len
  have hmz : h.mo ≠ 0 := by omega
  clear k bp hr2 x2 xp
  obtain ⟨N, hN⟩ : ∃ N : Nat, h.ws.length = N := ⟨_, rfl⟩
  have HN := hid hN
  rw [hN] at FH hlen ⊢
  clear hN
  go_wp2_with fail
  refine (pile_any Ab lb capb P2 (hAb.ext hx2) hlb (fun x hx => (hltb x hx).imp id fun q => by have := hx2.size; omega) hnb).mono ?_
  rintro e w3 ⟨D2, rfl, hD2, hx3, hh3⟩
  clear hAb hlb hltb hnb hA hl hlt hn
  obtain ⟨c0, c1, c2'⟩ := FH.out w3 hx3
  go_upto_region 4 with fail
  obtain ⟨m, hmE⟩ : ∃ X, (a : Int) % h.mo = X := ⟨_, rfl⟩
  have hm : 0 ≤ m ∧ m < h.mo := by rw [← hmE]; exact ⟨Int.emod_nonneg _ hmz, Int.emod_lt_of_pos _ (by omega)⟩
  try rw [hmE]
  clear hmE hmz
  obtain ⟨b06, biff, batL, batU, bmore⟩ := bou_ok HMD.out (by decide) hm
  have hsmb := bnd_sm (m := m) HK.out
  rw [HN.out] at biff
  have KB := hid (bounds_any _ h m w3 (HR.out w3 hx3) hs)
  obtain ⟨lo, hlo⟩ : ∃ X, bndL h m = X := ⟨_, rfl⟩
  obtain ⟨hi, hhi⟩ : ∃ X, bndU h m = X := ⟨_, rfl⟩
  obtain ⟨E, hE⟩ : ∃ X, bndE h m = X := ⟨_, rfl⟩
  rw [hlo, hhi, hE] at KB
  rw [hE] at b06 biff
  rw [hE, hlo] at batL
  rw [hE, hhi] at batU
  rw [hlo, hhi, hE] at bmore
  rw [hlo, hhi] at hsmb
  have HIFF := hid biff
  have HATL := hid batL
  have HATU := hid batU
  have HMO := hid bmore
  have H06 := hid b06
  have HLO := hid hsmb.1
  have HHI := hid hsmb.2
  clear hlo hhi hE biff batL batU bmore b06 hsmb
  unfold hval at KB
  unfold rval at KB
  rw [HN.out] at KB
  go_wp2_with fail
  refine KB.out.mono ?_
  rintro e w4 ⟨rfl, hx4⟩
  clear KB c0 c1 c2'
  go_upto_region 5 with fail
  obtain ⟨P5, hP5⟩ : ∃ P, (w4.alloc (.cells #[.int .i64 lo.1, .int .i64 lo.2] 43)).alloc (.cells #[.int .i64 hi.1, .int .i64 hi.2] 43) = P := ⟨_, rfl⟩
  have xP5 : Ext w4 P5 := by rw [← hP5]; exact (Ext.refl _).alloc _ |>.alloc _
  have bP5a : P5.heap[w4.heap.size]? = some (.cells #[.int .i64 lo.1, .int .i64 lo.2] 43 (0, 0)) := by rw [← hP5]; exact (Below.heap_alloc _ _ _ (by simp)).trans (heap_alloc_new w4 _)
  have bP5b : P5.heap[w4.heap.size + 1]? = some (.cells #[.int .i64 hi.1, .int .i64 hi.2] 43 (0, 0)) := by
    rw [← hP5]
    have q := heap_alloc_new (w4.alloc (.cells #[.int .i64 lo.1, .int .i64 lo.2] 43)) (.cells #[.int .i64 hi.1, .int .i64 hi.2] 43)
    rw [World.size_alloc] at q
    exact q
  try rw [hP5]
  clear hP5
  have hx35 := hx4.trans xP5
  have hx5 := hx3.trans hx35
  have hh5 := hh3.ext hx35
  have HLB : Hid (∀ w', Ext P5 w' → (w'.cell? ⟨w4.heap.size, 0, none⟩ = some (.int .i64 lo.1) ∧ w'.cell? ⟨w4.heap.size, 1, none⟩ = some (.int .i64 lo.2)) ∧ w'.cell? ⟨w4.heap.size + 1, 0, none⟩ = some (.int .i64 hi.1) ∧ w'.cell? ⟨w4.heap.size + 1, 1, none⟩ = some (.int .i64 hi.2)) := fun w' hw => by
    obtain ⟨q0, q1, -⟩ := rat_cells bP5a
    obtain ⟨r0, r1, -⟩ := rat_cells bP5b
    exact ⟨⟨hw.cell q0, hw.cell q1⟩, hw.cell r0, hw.cell r1⟩
  have HD2 : Hid (P2.heap.size ≤ D2) := hD2
  have HND : Hid (¬ (w4.heap.size = D2 ∨ P5.heap.size ≤ w4.heap.size) ∧ ¬ (w4.heap.size + 1 = D2 ∨ P5.heap.size ≤ w4.heap.size + 1)) := by
    have q1 := hh3.lt
    have q2 := hx4.size
    have q3 := (Array.getElem?_eq_some_iff.1 bP5b).1
    unfold Hid
    omega
  clear hx4 xP5 bP5a bP5b hx35 hh3 hx3 hD2
  have HU0 : Hid (cntU h m 0 = 0 ∧ cntO h m 0 = 0) := ⟨rfl, rfl⟩
  obtain ⟨c0, c1, c2'⟩ := FH.out P5 hx5
  go_wp2_with fail
  clear c0 c1 c2'
  go_loopw [14, 15, 54] (fun s14 s15 i wr => ∃ (k u o : Nat), i = .int .i64 (k : Int) ∧ k ≤ N ∧ s14 = .int .i64 (u : Int) ∧ s15 = .int .i64 (o : Int) ∧ Hid (cntU h m k = u ∧ cntO h m k = o) ∧ u ≤ k ∧ o ≤ k ∧ Ext P5 wr) (fun _ _ i _ => N - (intOf i).toNat)
  case atStart => exact ⟨0, 0, 0, rfl, Nat.zero_le _, rfl, rfl, HU0.out, Nat.le_refl _, Nat.le_refl _, Ext.refl _⟩
  case round =>
    obtain ⟨k, u, o, rfl, hk, rfl, rfl, HC, hu, ho, hx⟩ := hrel
    by_cases hlt : k < N
    · have hlt' : (k : Int) < (N : Int) := by omega
      have hx2r := hx5.trans hx
      obtain ⟨x, hxg⟩ := get_of_lt h.ws k (by rw [HN.out]; exact hlt)
      obtain ⟨Ah2, ch2, ehv, hrw2, -⟩ := HR.out wr hx2r
      obtain rfl : Ah = Ah2 := by unfold hval at ehv; simp at ehv; exact ehv.1
      obtain ⟨b, off, hAA, e0, e1, e2, e3, e4⟩ := Wgs.at_ hrw2 hxg
      subst hAA
      have HCU : Hid (cntU h m (k + 1) = u + if undH h x.mo m = true then 1 else 0) := by unfold Hid; rw [cntU_next hxg, HC.out.1]
      have HCO : Hid (cntO h m (k + 1) = o + if undH h m x.mo = true then 1 else 0) := by unfold Hid; rw [cntO_next hxg, HC.out.2]
      have KU1 : Hid (∀ w', Ext P2 w' → _) := fun w' hw => lunder_any _ h x.mo m w' (HR.out w' hw)
      have KU2 : Hid (∀ w', Ext P2 w' → _) := fun w' hw => lunder_any _ h m x.mo w' (HR.out w' hw)
      unfold hval at KU1 KU2
      rw [HN.out] at KU1 KU2
      obtain ⟨U1, hU1⟩ : ∃ X, undH h x.mo m = X := ⟨_, rfl⟩
      obtain ⟨U2, hU2⟩ : ∃ X, undH h m x.mo = X := ⟨_, rfl⟩
      rw [hU1] at KU1 HCU
      rw [hU2] at KU2 HCO
      clear ehv hrw2 hxg hU1 hU2 HC
      go_upto_region 9 with fail
      obtain ⟨W6, hW6⟩ : ∃ W6, wr.alloc (.cells #[.int .i64 x.mo, .int .i64 x.sl, .int .i64 x.sh, .int .i64 x.ml, .int .i64 x.mh] 55) = W6 := ⟨_, rfl⟩
      have hx6 : Ext wr W6 := by rw [← hW6]; exact (Ext.refl _).alloc _
      have bx : W6.heap[wr.heap.size]? = some (.cells #[.int .i64 x.mo, .int .i64 x.sl, .int .i64 x.sh, .int .i64 x.ml, .int .i64 x.mh] 55 (0, 0)) := by rw [← hW6]; exact heap_alloc_new wr _
      try rw [hW6]
      clear hW6 e0 e1 e2 e3 e4
      have hx26 := hx2r.trans hx6
      have x0 : W6.cell? ⟨wr.heap.size, 0, none⟩ = some (.int .i64 x.mo) := by rw [cell_of_row W6 _ 0 _ _ _ bx]; rfl
      clear bx
      obtain ⟨c0, c1, c2'⟩ := FH.out W6 hx26
      go_wp2_with fail
      refine (KU1.out W6 hx26).mono ?_
      rintro e w7 ⟨rfl, hx7⟩
      have hx27 := hx26.trans hx7
      have x0' := hx7.cell x0
      clear KU1 c0 c1 c2' x0
      obtain ⟨c0, c1, c2'⟩ := FH.out w7 hx27
      cases U1 with
      | true =>
        go_wp2_with fail
        refine (KU2.out w7 hx27).mono ?_
        rintro e w8 ⟨rfl, hx8⟩
        clear KU2 c0 c1 c2'
        cases U2 with
        | true =>
          go_wp2
          go_roundw
          case rel => exact ⟨k + 1, u + 1, o + 1, by go_num, by omega, by go_num, by go_num, ⟨by rw [HCU.out]; simp, by rw [HCO.out]; simp⟩, by omega, by omega, hx.trans (hx6.trans (hx7.trans hx8))⟩
          case measure => simp [intOf]; omega
        | false =>
          go_wp2
          go_roundw
          case rel => exact ⟨k + 1, u + 1, o, by go_num, by omega, by go_num, by go_num, ⟨by rw [HCU.out]; simp, by rw [HCO.out]; simp⟩, by omega, by omega, hx.trans (hx6.trans (hx7.trans hx8))⟩
          case measure => simp [intOf]; omega
      | false =>
        go_wp2_with fail
        refine (KU2.out w7 hx27).mono ?_
        rintro e w8 ⟨rfl, hx8⟩
        clear KU2 c0 c1 c2'
        cases U2 with
        | true =>
          go_wp2
          go_roundw
          case rel => exact ⟨k + 1, u, o + 1, by go_num, by omega, by go_num, by go_num, ⟨by rw [HCU.out]; simp, by rw [HCO.out]; simp⟩, by omega, by omega, hx.trans (hx6.trans (hx7.trans hx8))⟩
          case measure => simp [intOf]; omega
        | false =>
          go_wp2
          go_roundw
          case rel => exact ⟨k + 1, u, o, by go_num, by omega, by go_num, by go_num, ⟨by rw [HCU.out]; simp, by rw [HCO.out]; simp⟩, by omega, by omega, hx.trans (hx6.trans (hx7.trans hx8))⟩
          case measure => simp [intOf]; omega
    · have hlt' : ¬ (k : Int) < (N : Int) := by omega
      obtain rfl : k = N := by omega
      obtain ⟨wA, rfl⟩ : ∃ X, X = wr := ⟨_, rfl⟩
      obtain ⟨i1, i2⟩ := HC.out
      have HIF := hid HIFF.out
      rw [i1, i2] at HIF
      clear HIFF HC HU0 i1 i2
      have hx2A := hx5.trans hx
      have hhA := hh5.ext hx
      clear hh5
      obtain ⟨ui, hui⟩ : ∃ X : Int, (u : Int) = X := ⟨_, rfl⟩
      obtain ⟨oi, hoi⟩ : ∃ X : Int, (o : Int) = X := ⟨_, rfl⟩
      have HIF2 : Hid (E = 0 ↔ 0 < ui ∧ 0 < oi) := by unfold Hid; rw [HIF.out]; omega
      rw [hui, hoi]
      clear HIF hui hoi hu ho
      go_upto_region 14 with fail
      go_cut [89] (fun s89 wx => s89 = .bool false ∧ wA = wx)
      case first =>
        rcases H06.out with e6 | e6
        · have h2 : ¬ (0 < ui ∧ 0 < oi) := fun q => by have := HIF2.out.2 q; omega
          subst e6
          clear HIF2
          by_cases hu0 : 0 < ui
          · have g1 : ui > 0 := by omega
            have g2 : ¬ oi > 0 := by omega
            clear h2 hu0
            go_wp2_with fail
            go_meet
            exact ⟨rfl, rfl⟩
          · have g1 : ¬ ui > 0 := by omega
            clear h2 hu0
            go_wp2_with fail
            go_meet
            exact ⟨rfl, rfl⟩
        · have h2 := HIF2.out.1 e6
          subst e6
          clear HIF2
          have g1 : ui > 0 := by omega
          have g2 : oi > 0 := by omega
          clear h2
          go_wp2_with fail
          go_meet
          exact ⟨rfl, rfl⟩
      case rest =>
        obtain ⟨rfl, hwc⟩ := hcut
        subst hwc
        clear HIF2
        obtain ⟨B0, hB0⟩ : ∃ B : Bool, (E == 0) = B := ⟨_, rfl⟩
        have HB0 := hid hB0
        go_upto_region 16 with fail
        go_upto_if 91 with fail
        go_cut [] (fun wx => Ext wA wx)
        case first =>
          rcases H06.out with e6 | e6
          · subst e6
            obtain rfl : B0 = false := by rw [← HB0.out]; rfl
            clear HB0 H06 HATL HATU HMO
            go_wp2_with fail
            go_meet
            exact Ext.refl _
          · obtain rfl : B0 = true := by rw [← HB0.out, e6]; rfl
            have hatL := HATL.out e6
            have hatU := HATU.out e6
            subst e6
            clear HATL HATU HMO HB0 H06
            as_aux_lemma =>
             obtain ⟨⟨l0, l1⟩, i0, i1⟩ := HLB.out wA hx
             go_upto_region 18 with fail
             obtain ⟨P17, hP17⟩ : ∃ P, wA.alloc (.cells #[.int .i64 lo.1, .int .i64 lo.2, .int .i64 hi.1, .int .i64 hi.2] 43) = P := ⟨_, rfl⟩
             have x17 : Ext wA P17 := by rw [← hP17]; exact (Ext.refl _).alloc _
             have b17 : P17.heap[wA.heap.size]? = some (.cells #[.int .i64 lo.1, .int .i64 lo.2, .int .i64 hi.1, .int .i64 hi.2] 43 (0, 0)) := by rw [← hP17]; exact heap_alloc_new wA _
             try rw [hP17]
             have HC : Hid (∀ j : Nat, j < 2 → ∃ t : Rt, P17.cell? ⟨wA.heap.size, j * 2, none⟩ = some (.int .i64 t.1) ∧ P17.cell? ⟨wA.heap.size, j * 2 + 1, none⟩ = some (.int .i64 t.2) ∧ AtB h m j t) := fun j hj => by
               have hc := fun i u hu => blk_cells (xs := [.int .i64 lo.1, .int .i64 lo.2, .int .i64 hi.1, .int .i64 hi.2]) b17 i u hu
               match j, hj with
               | 0, _ => exact ⟨lo, hc 0 _ rfl, hc 1 _ rfl, hatL⟩
               | 1, _ => exact ⟨hi, hc 2 _ rfl, hc 3 _ rfl, hatU⟩
             clear hP17 b17 l0 l1 i0 i1 hatL hatU
             go_loopw [96] (fun i w' => ∃ j : Nat, i = .int .i64 (j : Int) ∧ j ≤ 2 ∧ Ext P17 w') (fun i _ => 2 - (intOf i).toNat)
             case atStart => exact ⟨0, rfl, Nat.zero_le _, Ext.refl _⟩
             case round =>
               obtain ⟨j, rfl, hj, hxj⟩ := hrel
               obtain ⟨wB, rfl⟩ : ∃ X, X = wr := ⟨_, rfl⟩
               by_cases hlj : j < 2
               · have hlj' : (j : Int) < 2 := by omega
                 obtain ⟨t, t0, t1, hat⟩ := HC.out j hlj
                 have HAT := hid hat
                 have hsz := hat.sz
                 have t0 := hxj.cell t0
                 have t1 := hxj.cell t1
                 clear hat
                 go_upto_region 20 with fail
                 obtain ⟨W6, hW6⟩ : ∃ W6, wB.alloc (.cells #[.int .i64 t.1, .int .i64 t.2] 43) = W6 := ⟨_, rfl⟩
                 have hx6 : Ext wB W6 := by rw [← hW6]; exact (Ext.refl _).alloc _
                 have bt : W6.heap[wB.heap.size]? = some (.cells #[.int .i64 t.1, .int .i64 t.2] 43 (0, 0)) := by rw [← hW6]; exact heap_alloc_new wB _
                 try rw [hW6]
                 clear hW6 t0 t1
                 obtain ⟨t0, t1, -⟩ := rat_cells bt
                 have s1 : ¬ t.1 < 1 := by omega
                 have s2 : ¬ t.2 < 1 := by omega
                 have s3 : ¬ t.1 > 1000 := by omega
                 have s4 : ¬ t.2 > 1000 := by omega
                 have hxA6 := x17.trans (hxj.trans hx6)
                 have hx26 := hx2A.trans hxA6
                 have KO := hid (lown_any _ h W6 (HR.out W6 hx26) (by rw [HN.out]; omega))
                 unfold hval at KO
                 rw [HN.out] at KO
                 obtain ⟨c0, c1, c2'⟩ := FH.out W6 hx26
                 go_wp2_with fail
                 refine KO.out.mono ?_
                 rintro e w7 ⟨g, cu, rfl, ho7, hx7⟩
                 clear KO c0 c1 c2' s1 s2 s3 s4 t0 t1
                 go_upto_region 23 with fail
                 obtain ⟨P7, hP7⟩ : ∃ P, w7.alloc (.cells #[.int .i64 h.mo, .int .i64 h.pk, .slice (some ⟨g, 0, none⟩) k cu] 25) = P := ⟨_, rfl⟩
                 have xq7 : Ext w7 P7 := by rw [← hP7]; exact Ext.alloc (Ext.refl _) _
                 have bq7 : P7.heap[w7.heap.size]? = some (.cells #[.int .i64 h.mo, .int .i64 h.pk, .slice (some ⟨g, 0, none⟩) k cu] 25 (0, 0)) := by rw [← hP7]; exact heap_alloc_new _ _
                 try rw [hP7]
                 clear hP7
                 have ho8 := own_below ho7 xq7
                 have hx67 := hx7.trans xq7
                 have hg7 : W6.heap.size ≤ g ∧ g < w7.heap.size := ho7.lt g rfl
                 have hB6 : wB.heap.size < W6.heap.size := (Array.getElem?_eq_some_iff.1 bt).1
                 have bt7 := (Below.block hx67 _ hB6).trans bt
                 have hBU7 : w7.heap.size < P7.heap.size := (Array.getElem?_eq_some_iff.1 bq7).1
                 have hW67 := hx67.size
                 obtain ⟨BU, hBU⟩ : ∃ BU, w7.heap.size = BU := ⟨_, rfl⟩
                 obtain ⟨BT, hBT⟩ : ∃ BT, wB.heap.size = BT := ⟨_, rfl⟩
                 rw [hBU] at bq7 hBU7 hg7
                 rw [hBT] at bt7 hB6
                 try rw [hBU, hBT]
                 have FX : Hid (∀ w', Ext P7 w' → w'.cell? ⟨BU, 2, none⟩ = some (.slice (some ⟨g, 0, none⟩) k cu) ∧ w'.cell? ⟨BT, 0, none⟩ = some (.int .i64 t.1) ∧ w'.cell? ⟨BT, 1, none⟩ = some (.int .i64 t.2)) := fun w' hw => by
                   obtain ⟨q0, q1, -⟩ := rat_cells bt7
                   obtain ⟨d0, d1, d2, -⟩ := house_cells bq7
                   exact ⟨hw.cell d2, hw.cell q0, hw.cell q1⟩
                 have FXG : Hid (∀ W w', Ext P7 W → W.grownBy w' (Value.slice (some ⟨g, 0, none⟩) k cu).ownBlock → w'.cell? ⟨BU, 2, none⟩ = some (.slice (some ⟨g, 0, none⟩) k cu) ∧ w'.cell? ⟨BT, 0, none⟩ = some (.int .i64 t.1) ∧ w'.cell? ⟨BT, 1, none⟩ = some (.int .i64 t.2)) := fun W w' hW hg => by
                   obtain ⟨q1, q2, q3⟩ := FX.out W hW
                   have hz := hW.size
                   refine ⟨?_, ?_, ?_⟩
                   · rw [hg.cell_far _ (by show BU < _; omega) (by show some BU ≠ some g; simp; omega)]; exact q1
                   · rw [hg.cell_far _ (by show BT < _; omega) (by show some BT ≠ some g; simp; omega)]; exact q2
                   · rw [hg.cell_far _ (by show BT < _; omega) (by show some BT ≠ some g; simp; omega)]; exact q3
                 have HO8 := hid ho8
                 have hk13 : k ≤ 13 := by have := HMD.out.ws; have := HN.out; omega
                 have KW := hid fun w' => weighed_any m t.2 t.2 t.1 t.1 w'
                 unfold Wg.val at KW
                 have hxP6 : Ext P17 W6 := hxj.trans hx6
                 clear ho7 ho8 bt hx7 xq7
                 refine wp_region_shut_tail Ext (fun w' => Ext P7 w') (fun
                   | 11 => some (fun v _ => v = .agg #[.int .i64 m, .int .i64 t.2, .int .i64 t.2, .int .i64 t.1, .int .i64 t.1])
                   | 12 => some (fun v w' => ∃ b, v = .slice (some ⟨b, 0, none⟩) 1 1 ∧ w'.heap[b]? = some (.cells #[.int .i64 m, .int .i64 t.2, .int .i64 t.2, .int .i64 t.1, .int .i64 t.1] 55 (0, 0)))
                   | _ => none) 13 (by kernel_rfl) (by kernel_rfl) (fun _ _ h k => h.trans k) ?hTr (Ext.drew (Ext.refl P7)) ?_
                 case hTr =>
                   intro i R hR
                   match i, hR with
                   | 11, hR => cases hR; exact fun _ _ _ h _ => h
                   | 12, hR => cases hR; exact fun v _ _ h hx => by obtain ⟨b, e, hb⟩ := h; exact ⟨b, e, (Below.block hx _ (Array.getElem?_eq_some_iff.1 hb).1).trans hb⟩
                 refine wM_val ?ur0 rfl rfl Ext.refl (fun w' hD => ?hr0) (fun phr0 => ?nr0)
                 case hr0 =>
                   obtain ⟨d2, f0, f1⟩ := FX.out w' hD.1
                   go_simp; rfl
                 simp only [Act.put, List.setIfInBounds_toArray, List.set_cons_succ, List.set_cons_zero, Nat.reduceAdd]
                 refine wM_val ?ur1 rfl rfl Ext.refl (fun w' hD => ?hr1) (fun phr1 => ?nr1)
                 case hr1 =>
                   obtain ⟨d2, f0, f1⟩ := FX.out w' hD.1
                   go_simp; rfl
                 simp only [Act.put, List.setIfInBounds_toArray, List.set_cons_succ, List.set_cons_zero, Nat.reduceAdd]
                 refine wM_val ?ur2 rfl rfl Ext.refl (fun w' hD => ?hr2) (fun phr2 => ?nr2)
                 case hr2 =>
                   obtain ⟨d2, f0, f1⟩ := FX.out w' hD.1
                   go_simp; rfl
                 simp only [Act.put, List.setIfInBounds_toArray, List.set_cons_succ, List.set_cons_zero, Nat.reduceAdd]
                 refine wM_val ?ur3 rfl rfl Ext.refl (fun w' hD => ?hr3) (fun phr3 => ?nr3)
                 case hr3 =>
                   obtain ⟨d2, f0, f1⟩ := FX.out w' hD.1
                   go_simp; rfl
                 simp only [Act.put, List.setIfInBounds_toArray, List.set_cons_succ, List.set_cons_zero, Nat.reduceAdd]
                 refine wM_val ?ur4 rfl rfl Ext.refl (fun w' hD => ?hr4) (fun phr4 => ?nr4)
                 case hr4 =>
                   obtain ⟨d2, f0, f1⟩ := FX.out w' hD.1
                   go_simp; rfl
                 simp only [Act.put, List.setIfInBounds_toArray, List.set_cons_succ, List.set_cons_zero, Nat.reduceAdd]
                 refine wM_val ?ur5 rfl rfl Ext.refl (fun w' hD => ?hr5) (fun phr5 => ?nr5)
                 case hr5 =>
                   obtain ⟨d2, f0, f1⟩ := FX.out w' hD.1
                   go_simp; rfl
                 simp only [Act.put, List.setIfInBounds_toArray, List.set_cons_succ, List.set_cons_zero, Nat.reduceAdd]
                 refine wM_val ?ur6 rfl rfl Ext.refl (fun w' hD => ?hr6) (fun phr6 => ?nr6)
                 case hr6 =>
                   obtain ⟨d2, f0, f1⟩ := FX.out w' hD.1
                   go_simp; rfl
                 simp only [Act.put, List.setIfInBounds_toArray, List.set_cons_succ, List.set_cons_zero, Nat.reduceAdd]
                 refine wM_val ?ur7 rfl rfl Ext.refl (fun w' hD => ?hr7) (fun phr7 => ?nr7)
                 case hr7 =>
                   obtain ⟨d2, f0, f1⟩ := FX.out w' hD.1
                   go_simp; rfl
                 simp only [Act.put, List.setIfInBounds_toArray, List.set_cons_succ, List.set_cons_zero, Nat.reduceAdd]
                 refine wM_val ?ur8 rfl rfl Ext.refl (fun w' hD => ?hr8) (fun phr8 => ?nr8)
                 case hr8 =>
                   obtain ⟨d2, f0, f1⟩ := FX.out w' hD.1
                   go_simp; rfl
                 simp only [Act.put, List.setIfInBounds_toArray, List.set_cons_succ, List.set_cons_zero, Nat.reduceAdd]
                 refine wM_val ?ur9 rfl rfl Ext.refl (fun w' hD => ?hr9) (fun phr9 => ?nr9)
                 case hr9 =>
                   obtain ⟨d2, f0, f1⟩ := FX.out w' hD.1
                   go_simp; rfl
                 simp only [Act.put, List.setIfInBounds_toArray, List.set_cons_succ, List.set_cons_zero, Nat.reduceAdd]
                 refine wM_val ?ur10 rfl rfl Ext.refl (fun w' hD => ?hr10) (fun phr10 => ?nr10)
                 case hr10 =>
                   obtain ⟨d2, f0, f1⟩ := FX.out w' hD.1
                   go_simp; rfl
                 simp only [Act.put, List.setIfInBounds_toArray, List.set_cons_succ, List.set_cons_zero, Nat.reduceAdd]
                 refine wM_op _ rfl rfl (opens_call ?fr11 ?gr11 (fun w' hD => ?hr11) (fun w' hD => ?cr11)) (fun v11 hv11 => ?nr11)
                 case hr11 => go_simp; constructor <;> rfl
                 case cr11 =>
                   refine (KW.out w').mono ?_
                   rintro e w2 ⟨rfl, hb⟩
                   exact ⟨_, rfl, hb, rfl⟩
                 obtain ⟨_, -, -, rfl⟩ := hv11
                 simp only [Act.put, List.setIfInBounds_toArray, List.set_cons_succ, List.set_cons_zero, Nat.reduceAdd]
                 refine wM_op _ rfl rfl (opens_val (fun w' hD => ?hbr12)) (fun v12 hv12 => ?nbr12)
                 case hbr12 =>
                   refine ⟨.slice (some ⟨w'.heap.size, 0, none⟩) 1 1, w'.alloc (.cells #[.int .i64 m, .int .i64 t.2, .int .i64 t.2, .int .i64 t.1, .int .i64 t.1] 55), ?_, Ext.alloc (Ext.refl _) _, _, rfl, heap_alloc_new _ _⟩
                   go_simp
                 obtain ⟨_, -, -, b12, rfl, -⟩ := hv12
                 simp only [Act.put, List.setIfInBounds_toArray, List.set_cons_succ, List.set_cons_zero, Nat.reduceAdd]
                 refine wM_nil ?_
                 intro w9 hw9 hF9
                 obtain ⟨-, b12', e12, hb12⟩ := hF9 12
                 cases e12
                 clear hF9
                 simp only [List.drop_succ_cons, List.drop_zero]
                 have hxA9 := hxP6.trans (hx67.trans hw9)
                 have ho9 := own_below HO8.out hw9
                 have bu9 := (Below.block hw9 _ hBU7).trans bq7
                 have bt9 := (Below.block hw9 _ (Array.getElem?_eq_some_iff.1 bt7).1).trans bt7
                 have hz9 := hw9.size
                 have hg9 := ho9.lt g rfl
                 obtain ⟨d0, d1, d2, fzu⟩ := house_cells bu9
                 obtain ⟨-, ⟨i0, z0, hi0, hz0, hsize, hby, hzs⟩, -, -⟩ := elem_wg
                 clear FX FXG KW HO8 bq7 bt7
                 go_wp2_with (at_builtin; refine wpList_append_rd2 _ rfl _ _ 23 rfl elem_wg W6.heap.size _ k (layWg.rows h.ws) rfl ho9 (some ⟨b12, 0, none⟩) 1 1 (layWg.cells (ptW m t.1 t.2)) rfl rfl (rd_blk2 hb12) (layWg.one _) (by omega) (by omega) ?_)
                 intro A5 c5 w10 own10 bel10 gr10 at10
                 have hS10 : BelS (fun j => j = g) w9 w10 := ((BelS.refl _ w9).grown gr10 (fun k e => e)).mono (fun j _ hj => by injection hj with e; exact e.symm)
                 have hgU : ¬ BU = g := by omega
                 have hgT : ¬ BT = g := by omega
                 have bu10 := hS10.heap bu9 hgU
                 have bt10 := hS10.heap bt9 hgT
                 rw [← layWg.rows_single, ← layWg.rows_app] at own10
                 obtain ⟨g5, rfl⟩ := own_some5 own10
                 have hEA10 : BelS (fun j => W6.heap.size ≤ j) P17 w10 := (Ext.belS hxA9).trans (hS10.mono fun j _ hj => by subst hj; exact hg7.1)
                 obtain ⟨W11, hW11⟩ : ∃ W, w10.setCell ⟨BU, 2, none⟩ (.slice (some ⟨g5, 0, none⟩) (k + 1) c5) = W := ⟨_, rfl⟩
                 have hb11 : Bel BU w10 W11 := by rw [← hW11]; exact (Bel.refl _ _).setCell 2 _
                 have bu11 : W11.heap[BU]? = some (.cells #[.int .i64 h.mo, .int .i64 h.pk, .slice (some ⟨g5, 0, none⟩) (k + 1) c5] 25 (0, 0)) := by rw [← hW11]; exact heap_setW bu10 _
                 have bt11 := hb11.heap bt10 (by omega)
                 have own11 := hb11.own own10 (fun j hj e => own_neT own10 bu10 (by decide) (by rw [hj, e]))
                 have hg5 := own11.lt g5 rfl
                 have hU6 : W6.heap.size ≤ BU := by omega
                 have hEA11 : BelS (fun j => W6.heap.size ≤ j) P17 W11 := hEA10.trans (hb11.belS hU6)
                 have hsA6 : P17.heap.size ≤ W6.heap.size := hxP6.size
                 have hsz1 : (addH h (ptW m t.1 t.2)).sized := by unfold Hs.sized addH; rw [List.length_append, HN.out]; simp; omega
                 have KS := shownx_any _ (addH h (ptW m t.1 t.2)) W11 (hsr_add HN.out own11) hsz1
                 rw [HAT.out.at_] at KS
                 have KS := hid KS
                 obtain ⟨d0, d1, d2, fzu⟩ := house_cells bu10
                 clear gr10 at10 bel10 hb12 hS10 hEA10 hb11 bu9 bt9 bt10 hsz1
                 go_upto_region 24 with fail
                 try rw [hW11]
                 clear hW11 own10 bu10 d0 d1 d2 fzu
                 obtain ⟨d0, d1, d2, fzu⟩ := house_cells bu11
                 go_wp2_with fail
                 refine KS.out.mono ?_
                 rintro e w12 ⟨A12, c12, rfl, hx12, -⟩
                 clear KS d0 d1 d2 fzu
                 have bu12 := (Below.block hx12 _ (Array.getElem?_eq_some_iff.1 bu11).1).trans bu11
                 have bt12 := (Below.block hx12 _ (Array.getElem?_eq_some_iff.1 bt11).1).trans bt11
                 have own12 := own_below own11 hx12
                 have hEA12 := hEA11.trans (Ext.belS hx12)
                 obtain ⟨t0, t1, -⟩ := rat_cells bt12
                 have hz12 := hx12.size
                 have KW := hid fun w' => weighed_any m t.2 t.2 (t.1 - 1) (t.1 - 1) w'
                 unfold Wg.val at KW
                 have wm1 : IntKind.i64.wrap (t.1 - 1) = t.1 - 1 := IntWalk.i64_in _ ⟨by omega, by omega⟩
                 have wp1 : IntKind.i64.wrap (t.1 + 1) = t.1 + 1 := IntWalk.i64_in _ ⟨by omega, by omega⟩
                 clear bu11 bt11 own11 hEA11
                 go_wp2_with fail
                 refine (KW.out w12).mono ?_
                 rintro e w13 ⟨rfl, hx13⟩
                 clear KW t0 t1
                 go_upto_region 28 with fail
                 obtain ⟨P14, hP14⟩ : ∃ P, w13.alloc (.cells #[.int .i64 m, .int .i64 t.2, .int .i64 t.2, .int .i64 (t.1 - 1), .int .i64 (t.1 - 1)] 55) = P := ⟨_, rfl⟩
                 have x14 : Ext w13 P14 := by rw [← hP14]; exact Ext.alloc (Ext.refl _) _
                 have bo14 : P14.heap[w13.heap.size]? = some (.cells #[.int .i64 m, .int .i64 t.2, .int .i64 t.2, .int .i64 (t.1 - 1), .int .i64 (t.1 - 1)] 55 (0, 0)) := by rw [← hP14]; exact heap_alloc_new _ _
                 try rw [hP14]
                 clear hP14
                 have hx14 := hx13.trans x14
                 obtain ⟨BO, hBO⟩ : ∃ b, w13.heap.size = b := ⟨_, rfl⟩
                 have hlO : w12.heap.size ≤ BO := by have := hx13.size; omega
                 rw [hBO] at bo14
                 try rw [hBO]
                 have bu14 := (Below.block hx14 _ (Array.getElem?_eq_some_iff.1 bu12).1).trans bu12
                 have bt14 := (Below.block hx14 _ (Array.getElem?_eq_some_iff.1 bt12).1).trans bt12
                 have own14 := own_below own12 hx14
                 have hEA14 := hEA12.trans (Ext.belS hx14)
                 have hlU : BU < w12.heap.size := (Array.getElem?_eq_some_iff.1 bu12).1
                 have hl5 := own12.lt g5 rfl
                 clear hBO hx13 x14 hx14 bu12 bt12 own12 hEA12 hx12
                 by_cases h1 : j = 1
                 · have hj1 : ((j : Int) == 1) = true := by simp [h1]
                   have HX2 : Hid (checkH (addH h (ptW m (t.1 + 1) t.2)) = 0 → shoE (addH h (ptW m (t.1 + 1) t.2)) = 7) := HAT.out.hi h1
                   obtain ⟨t0, t1, -⟩ := rat_cells bt14
                   have KW := hid fun w' => weighed_any m t.2 t.2 (t.1 + 1) (t.1 + 1) w'
                   unfold Wg.val at KW
                   clear HAT h1
                   go_wp2_with fail
                   refine (KW.out P14).mono ?_
                   rintro e w15 ⟨rfl, hx15⟩
                   clear KW t0 t1
                   have bu15 := (Below.block hx15 _ (Array.getElem?_eq_some_iff.1 bu14).1).trans bu14
                   have bo15 := (Below.block hx15 _ (Array.getElem?_eq_some_iff.1 bo14).1).trans bo14
                   have own15 := own_below own14 hx15
                   have hEA15 := hEA14.trans (Ext.belS hx15)
                   obtain ⟨⟨o0, o1, o2, o3, o4⟩, fzo⟩ := blk5_cells bo15
                   obtain ⟨W16, hW16⟩ : ∃ W, put5W w15 BO 0 (ptW m (t.1 + 1) t.2) = W := ⟨_, rfl⟩
                   have hb16 := put5_bel w15 BO 0 (ptW m (t.1 + 1) t.2)
                   have bo16 := put5_blk (ptW m (t.1 + 1) t.2) bo15
                   rw [hW16] at hb16 bo16
                   unfold put5W ptW at hW16
                   unfold ptW at bo16
                   simp only [Nat.zero_add] at hW16 bo16
                   have bu16 := hb16.heap bu15 (by omega)
                   have own16 := hb16.own own15 (fun j hj e => by injection hj with q; have q2 : g5 = j := q; omega)
                   have hEA16 := hEA15.trans (hb16.belS (S := fun j => W6.heap.size ≤ j) (by show W6.heap.size ≤ BO; omega))
                   clear hb16 bo15 bu15 own15 hEA15 bo14 bu14 own14 hEA14 hx15
                   go_upto_region 30 with fail
                   try rw [hW16]
                   clear hW16 o0 o1 o2 o3 o4 fzo
                   as_aux_lemma =>
                    obtain ⟨⟨o0, o1, o2, o3, o4⟩, fzo⟩ := blk5_cells bo16
                    obtain ⟨d0, d1, d2, fzu⟩ := house_cells bu16
                    have hget : (h.ws ++ [ptW m t.1 t.2])[k]? = some (ptW m t.1 t.2) := by rw [List.getElem?_append_right (by rw [HN.out]; exact Nat.le_refl _), HN.out, Nat.sub_self]; rfl
                    obtain ⟨hrc, fzr⟩ := row5 own16 hget
                    have r0 := hrc 0 _ rfl
                    have r1 := hrc 1 _ rfl
                    have r2 := hrc 2 _ rfl
                    have r3 := hrc 3 _ rfl
                    have r4 := hrc 4 _ rfl
                    rw [Nat.add_zero] at r0
                    obtain ⟨W17, hW17⟩ : ∃ W, put5W W16 g5 (k * 5) (ptW m (t.1 + 1) t.2) = W := ⟨_, rfl⟩
                    have hb17 := put5_bel W16 g5 (k * 5) (ptW m (t.1 + 1) t.2)
                    have own17 := put5_own (ptW m (t.1 + 1) t.2) own16 HN.out
                    rw [hW17] at hb17 own17
                    unfold put5W ptW at hW17
                    simp only at hW17
                    have bu17 := hb17.heap bu16 (fun e => own_neT own16 bu16 (by decide) (by rw [e]; rfl))
                    have hEA17 := hEA16.trans (hb17.belS (S := fun j => W6.heap.size ≤ j) (by show W6.heap.size ≤ g5; omega))
                    have hxA17 : Ext P17 W17 := hEA17.ext (fun j hj hS => by omega)
                    have wk1 : IntKind.i64.wrap (((k + 1 : Nat) : Int) - 1) = (k : Int) := by rw [show ((k + 1 : Nat) : Int) - 1 = k by omega]; exact IntWalk.i64_in _ ⟨by omega, by omega⟩
                    have wk2 : IntKind.i64.wrap ((k : Int) + 1 - 1) = (k : Int) := by rw [show (k : Int) + 1 - 1 = k by omega]; exact IntWalk.i64_in _ ⟨by omega, by omega⟩
                    have HSR := hsr_add HN.out own17
                    have hsz2 : (addH h (ptW m (t.1 + 1) t.2)).sized := by unfold Hs.sized addH; rw [List.length_append, HN.out]; simp; omega
                    have KS := hid (shownx_any _ (addH h (ptW m (t.1 + 1) t.2)) W17 HSR hsz2)
                    have KC : Hid (∀ w', Ext W17 w' → _) := fun w' hw => check_any _ (addH h (ptW m (t.1 + 1) t.2)) w' (HSR.ext hw) hsz2
                    obtain ⟨E2, hE2⟩ : ∃ x, shoE (addH h (ptW m (t.1 + 1) t.2)) = x := ⟨_, rfl⟩
                    obtain ⟨T2, hT2⟩ : ∃ x, checkH (addH h (ptW m (t.1 + 1) t.2)) = x := ⟨_, rfl⟩
                    rw [hE2] at KS HX2
                    rw [hT2] at KC HX2
                    clear hE2 hT2 HSR hsz2 hb17 own17 hEA17 hget hrc bo16 bu16 own16 hEA16
                    go_upto_region 31 with fail
                    try rw [hW17]
                    clear hW17 o0 o1 o2 o3 o4 fzo d0 d1 d2 fzu r0 r1 r2 r3 r4 fzr wk1 wk2
                    obtain ⟨d0, d1, d2, fzu⟩ := house_cells bu17
                    go_wp2_with fail
                    refine KS.out.mono ?_
                    rintro e w18 ⟨A18, c18, rfl, hx18, -⟩
                    clear KS d0 d1 d2 fzu
                    have bu18 := (Below.block hx18 _ (Array.getElem?_eq_some_iff.1 bu17).1).trans bu17
                    obtain ⟨d0, d1, d2, fzu⟩ := house_cells bu18
                    go_wp2_with fail
                    refine (KC.out w18 hx18).mono ?_
                    rintro e w19 ⟨rfl, hx19⟩
                    clear KC d0 d1 d2 fzu bu18 bu17
                    have hxAE := hid (hxA17.trans (hx18.trans hx19))
                    by_cases hT0 : T2 = 0
                    · have hE7 := HX2.out hT0
                      subst hT0
                      subst hE7
                      clear HX2
                      go_wp2
                      go_roundw
                      case rel => exact ⟨j + 1, by go_num, by omega, hxAE.out⟩
                      case measure => simp [intOf]; omega
                    · have hT0b : (T2 == 0) = false := by simp [hT0]
                      clear HX2
                      go_wp2
                      go_roundw
                      case rel => exact ⟨j + 1, by go_num, by omega, hxAE.out⟩
                      case measure => simp [intOf]; omega
                 · have hj1 : ((j : Int) == 1) = false := by simp; omega
                   have HX2 : Hid (checkH (addH h (ptW m (t.1 - 1) t.2)) = 0 → shoE (addH h (ptW m (t.1 - 1) t.2)) = 7) := HAT.out.lo (by omega)
                   clear HAT h1
                   go_upto_region 30 with fail
                   as_aux_lemma =>
                    obtain ⟨⟨o0, o1, o2, o3, o4⟩, fzo⟩ := blk5_cells bo14
                    obtain ⟨d0, d1, d2, fzu⟩ := house_cells bu14
                    have hget : (h.ws ++ [ptW m t.1 t.2])[k]? = some (ptW m t.1 t.2) := by rw [List.getElem?_append_right (by rw [HN.out]; exact Nat.le_refl _), HN.out, Nat.sub_self]; rfl
                    obtain ⟨hrc, fzr⟩ := row5 own14 hget
                    have r0 := hrc 0 _ rfl
                    have r1 := hrc 1 _ rfl
                    have r2 := hrc 2 _ rfl
                    have r3 := hrc 3 _ rfl
                    have r4 := hrc 4 _ rfl
                    rw [Nat.add_zero] at r0
                    obtain ⟨W17, hW17⟩ : ∃ W, put5W P14 g5 (k * 5) (ptW m (t.1 - 1) t.2) = W := ⟨_, rfl⟩
                    have hb17 := put5_bel P14 g5 (k * 5) (ptW m (t.1 - 1) t.2)
                    have own17 := put5_own (ptW m (t.1 - 1) t.2) own14 HN.out
                    rw [hW17] at hb17 own17
                    unfold put5W ptW at hW17
                    simp only at hW17
                    have bu17 := hb17.heap bu14 (fun e => own_neT own14 bu14 (by decide) (by rw [e]; rfl))
                    have hEA17 := hEA14.trans (hb17.belS (S := fun j => W6.heap.size ≤ j) (by show W6.heap.size ≤ g5; omega))
                    have hxA17 : Ext P17 W17 := hEA17.ext (fun j hj hS => by omega)
                    have wk1 : IntKind.i64.wrap (((k + 1 : Nat) : Int) - 1) = (k : Int) := by rw [show ((k + 1 : Nat) : Int) - 1 = k by omega]; exact IntWalk.i64_in _ ⟨by omega, by omega⟩
                    have wk2 : IntKind.i64.wrap ((k : Int) + 1 - 1) = (k : Int) := by rw [show (k : Int) + 1 - 1 = k by omega]; exact IntWalk.i64_in _ ⟨by omega, by omega⟩
                    have HSR := hsr_add HN.out own17
                    have hsz2 : (addH h (ptW m (t.1 - 1) t.2)).sized := by unfold Hs.sized addH; rw [List.length_append, HN.out]; simp; omega
                    have KS := hid (shownx_any _ (addH h (ptW m (t.1 - 1) t.2)) W17 HSR hsz2)
                    have KC : Hid (∀ w', Ext W17 w' → _) := fun w' hw => check_any _ (addH h (ptW m (t.1 - 1) t.2)) w' (HSR.ext hw) hsz2
                    obtain ⟨E2, hE2⟩ : ∃ x, shoE (addH h (ptW m (t.1 - 1) t.2)) = x := ⟨_, rfl⟩
                    obtain ⟨T2, hT2⟩ : ∃ x, checkH (addH h (ptW m (t.1 - 1) t.2)) = x := ⟨_, rfl⟩
                    rw [hE2] at KS HX2
                    rw [hT2] at KC HX2
                    clear hE2 hT2 HSR hsz2 hb17 own17 hEA17 hget hrc bo14 bu14 own14 hEA14
                    go_upto_region 31 with fail
                    try rw [hW17]
                    clear hW17 o0 o1 o2 o3 o4 fzo d0 d1 d2 fzu r0 r1 r2 r3 r4 fzr wk1 wk2
                    obtain ⟨d0, d1, d2, fzu⟩ := house_cells bu17
                    go_wp2_with fail
                    refine KS.out.mono ?_
                    rintro e w18 ⟨A18, c18, rfl, hx18, -⟩
                    clear KS d0 d1 d2 fzu
                    have bu18 := (Below.block hx18 _ (Array.getElem?_eq_some_iff.1 bu17).1).trans bu17
                    obtain ⟨d0, d1, d2, fzu⟩ := house_cells bu18
                    go_wp2_with fail
                    refine (KC.out w18 hx18).mono ?_
                    rintro e w19 ⟨rfl, hx19⟩
                    clear KC d0 d1 d2 fzu bu18 bu17
                    have hxAE := hid (hxA17.trans (hx18.trans hx19))
                    by_cases hT0 : T2 = 0
                    · have hE7 := HX2.out hT0
                      subst hT0
                      subst hE7
                      clear HX2
                      go_wp2
                      go_roundw
                      case rel => exact ⟨j + 1, by go_num, by omega, hxAE.out⟩
                      case measure => simp [intOf]; omega
                    · have hT0b : (T2 == 0) = false := by simp [hT0]
                      clear HX2
                      go_wp2
                      go_roundw
                      case rel => exact ⟨j + 1, by go_num, by omega, hxAE.out⟩
                      case measure => simp [intOf]; omega
               · have hlj' : ¬ (j : Int) < 2 := by omega
                 go_wp2_with fail
                 go_meet
                 exact x17.trans hxj
        case rest =>
          as_aux_lemma =>
           obtain ⟨c0, c1, c2'⟩ := FH.out wc (hx2A.trans hcut)
           have hx2c := hx2A.trans hcut
           have hxAc := hid hcut
           have hhc := hhA.ext hcut
           clear hcut hhA HATL HATU
           have KO := hid (lown_any _ h wc (HR.out wc hx2c) (by rw [HN.out]; omega))
           unfold hval at KO
           rw [HN.out] at KO
           go_wp2_with fail
           refine KO.out.mono ?_
           rintro e w7 ⟨g, cu, rfl, ho7, hx7⟩
           clear KO c0 c1 c2'
           go_upto_region 36 with fail
           obtain ⟨P7, hP7⟩ : ∃ P, w7.alloc (.cells #[.int .i64 h.mo, .int .i64 h.pk, .slice (some ⟨g, 0, none⟩) k cu] 25) = P := ⟨_, rfl⟩
           have xq7 : Ext w7 P7 := by rw [← hP7]; exact Ext.alloc (Ext.refl _) _
           have bq7 : P7.heap[w7.heap.size]? = some (.cells #[.int .i64 h.mo, .int .i64 h.pk, .slice (some ⟨g, 0, none⟩) k cu] 25 (0, 0)) := by rw [← hP7]; exact heap_alloc_new _ _
           try rw [hP7]
           clear hP7
           have ho8 := own_below ho7 xq7
           have hx67 := hx7.trans xq7
           have hx27 := hx2c.trans hx67
           have hh7 := hhc.ext hx67
           have hgl := ho7.lt g rfl
           have hD2c : D2 < wc.heap.size := hhc.lt
           obtain ⟨BU, hBU⟩ : ∃ BU, w7.heap.size = BU := ⟨_, rfl⟩
           rw [hBU] at bq7 hgl
           try rw [hBU]
           clear hBU ho7 hx7 xq7
           go_wp2_with fail
           refine (from_any D2 20 300 P7 hh7 (by omega) (by omega) (by omega) (by omega)).mono ?_
           rintro e w8 ⟨sh, rfl, sh1, sh2, hb8, hh8⟩
           have hsh : 20 ≤ sh ∧ sh ≤ 300 := by omega
           have hD2P := HD2.out
           have hx28 := Bel.extw hx27 hb8 hD2P
           have hxA8 := hid ((hxAc.out.trans hx67).bel.trans hb8)
           have ho8 := hb8.own ho8 (fun j hj e => by injection hj with q; have q2 : g = j := q; omega)
           have bq8 := hb8.heap bq7 (by omega)
           have HB8 := hid hb8
           have HMOF : Hid (0 < h.mo ∧ h.mo ≤ 12) := by unfold Hid; omega
           have hm1 : IntKind.i64.wrap (h.mo - 1) = h.mo - 1 := IntWalk.i64_in _ ⟨by omega, by omega⟩
           have FX : Hid (∀ w', Bel D2 w8 w' → (w'.cell? ⟨BU, 0, none⟩ = some (.int .i64 h.mo) ∧ w'.cell? ⟨BU, 1, none⟩ = some (.int .i64 h.pk) ∧ w'.cell? ⟨BU, 2, none⟩ = some (.slice (some ⟨g, 0, none⟩) k cu)) ∧ w'.cell? ⟨w2.heap.size, 0, none⟩ = some (.int .i64 h.mo)) := fun w' hw => by
             obtain ⟨q0, q1, q2, -⟩ := house_cells (hw.heap bq8 (by omega))
             exact ⟨⟨q0, q1, q2⟩, (FH.out w' (Bel.extw hx28 hw hD2P)).1⟩
           have HSH := hid hsh
           have HD2W : Hid (D2 < w8.heap.size) := hh8.lt
           clear sh1 sh2 hb8 bq7 hh7
           go_upto_region 37 with fail
           have HWGO : Hid (∀ r1 r2 r3 w', Calls Try.prog 25 #[.int .i64 r1, .int .i64 sh, .int .i64 (sh + r2), .int .i64 r3, .int .i64 sh] w' fun e w2 => e = .returned (.agg #[.int .i64 r1, .int .i64 sh, .int .i64 (sh + r2), .int .i64 r3, .int .i64 sh]) ∧ Ext w' w2) := fun r1 r2 r3 w' => weighed_any r1 sh (sh + r2) r3 sh w'
           refine wp_region_shut_tail (Deal D2) (fun w' => Bel D2 w8 w' ∧ HeapR w' D2) (fun
             | 6 => some (fun v _ => ∃ r : Int, v = .int .i64 r ∧ 0 ≤ r ∧ r < h.mo)
             | 10 => some (fun v _ => ∃ r : Int, v = .int .i64 r ∧ 0 ≤ r ∧ r ≤ 9)
             | 14 => some (fun v _ => ∃ r : Int, v = .int .i64 r ∧ 1 ≤ r ∧ r ≤ sh)
             | 16 => some (fun v _ => ∃ x : Wg, v = .agg #[.int .i64 x.mo, .int .i64 x.sl, .int .i64 x.sh, .int .i64 x.ml, .int .i64 x.mh] ∧ WgOK h x)
             | 17 => some (fun v w' => ∃ (x : Wg) (b : Nat), v = .slice (some ⟨b, 0, none⟩) 1 1 ∧ w8.heap.size ≤ b ∧ w'.heap[b]? = some (.cells (layWg.cells x).toArray 55 (0, 0)) ∧ WgOK h x)
             | _ => none) 18 (by kernel_rfl) (by kernel_rfl) (fun _ _ h k => ⟨h.1.trans k.1, k.2 h.2⟩) ?hT37 ⟨Ext.bel (Ext.drew (Ext.refl _)), hh8.ext (Ext.drew (Ext.refl _))⟩ ?_
           case hT37 =>
             intro i R hR
             match i, hR with
             | 6, hR => cases hR; exact fun _ _ _ h _ => h
             | 10, hR => cases hR; exact fun _ _ _ h _ => h
             | 14, hR => cases hR; exact fun _ _ _ h _ => h
             | 16, hR => cases hR; exact fun _ _ _ h _ => h
             | 17, hR => cases hR; exact fun v _ _ h hx => by obtain ⟨x, b, e, hz, hb, ho⟩ := h; exact ⟨x, b, e, hz, hx.1.heap hb (by have := HD2W.out; omega), ho⟩
           refine wM_val ?uq0 rfl rfl (Deal.refl D2) (fun w' hD => ?hq0) (fun phq0 => ?nq0)
           case hq0 =>
             obtain ⟨⟨e0, e1, e2⟩, f0⟩ := FX.out w' hD.1.1
             go_simp; rfl
           simp only [Act.put, List.setIfInBounds_toArray, List.set_cons_succ, List.set_cons_zero, Nat.reduceAdd]
           refine wM_val ?uq1 rfl rfl (Deal.refl D2) (fun w' hD => ?hq1) (fun phq1 => ?nq1)
           case hq1 =>
             obtain ⟨⟨e0, e1, e2⟩, f0⟩ := FX.out w' hD.1.1
             go_simp; rfl
           simp only [Act.put, List.setIfInBounds_toArray, List.set_cons_succ, List.set_cons_zero, Nat.reduceAdd]
           refine wM_val ?uq2 rfl rfl (Deal.refl D2) (fun w' hD => ?hq2) (fun phq2 => ?nq2)
           case hq2 =>
             obtain ⟨⟨e0, e1, e2⟩, f0⟩ := FX.out w' hD.1.1
             go_simp; rfl
           simp only [Act.put, List.setIfInBounds_toArray, List.set_cons_succ, List.set_cons_zero, Nat.reduceAdd]
           refine wM_val ?uq3 rfl rfl (Deal.refl D2) (fun w' hD => ?hq3) (fun phq3 => ?nq3)
           case hq3 =>
             obtain ⟨⟨e0, e1, e2⟩, f0⟩ := FX.out w' hD.1.1
             go_simp; rfl
           simp only [Act.put, List.setIfInBounds_toArray, List.set_cons_succ, List.set_cons_zero, Nat.reduceAdd]
           refine wM_val ?uq4 rfl rfl (Deal.refl D2) (fun w' hD => ?hq4) (fun phq4 => ?nq4)
           case hq4 =>
             obtain ⟨⟨e0, e1, e2⟩, f0⟩ := FX.out w' hD.1.1
             go_simp; rfl
           simp only [Act.put, List.setIfInBounds_toArray, List.set_cons_succ, List.set_cons_zero, Nat.reduceAdd]
           refine wM_val ?uq5 rfl rfl (Deal.refl D2) (fun w' hD => ?hq5) (fun phq5 => ?nq5)
           case hq5 =>
             obtain ⟨⟨e0, e1, e2⟩, f0⟩ := FX.out w' hD.1.1
             go_simp; rfl
           simp only [Act.put, List.setIfInBounds_toArray, List.set_cons_succ, List.set_cons_zero, Nat.reduceAdd]
           refine wM_op _ rfl rfl (opens_call ?fq6 ?gq6 (fun w' hD => ?hq6) (fun w' hD => ?cq6)) (fun v6 hv6 => ?nq6)
           case hq6 => go_simp; constructor <;> rfl
           case cq6 =>
             refine (upto_any D2 (h.mo - 1) w' hD.1.2 (by have := HMOF.out; omega) (by have := HMOF.out; omega)).mono ?_
             rintro e w2 ⟨r, rfl, r1, r2, hb, hh⟩
             exact ⟨_, rfl, Deal.mk' hb hh, r, rfl, r1, by have := HMOF.out; omega⟩
           obtain ⟨_, -, -, mo3, rfl, hq1, hq2⟩ := hv6
           simp only [Act.put, List.setIfInBounds_toArray, List.set_cons_succ, List.set_cons_zero, Nat.reduceAdd]
           refine wM_val ?uq7 rfl rfl (Deal.refl D2) (fun w' hD => ?hq7) (fun phq7 => ?nq7)
           case hq7 =>
             obtain ⟨⟨e0, e1, e2⟩, f0⟩ := FX.out w' hD.1.1
             go_simp; rfl
           simp only [Act.put, List.setIfInBounds_toArray, List.set_cons_succ, List.set_cons_zero, Nat.reduceAdd]
           refine wM_val ?uq8 rfl rfl (Deal.refl D2) (fun w' hD => ?hq8) (fun phq8 => ?nq8)
           case hq8 =>
             obtain ⟨⟨e0, e1, e2⟩, f0⟩ := FX.out w' hD.1.1
             go_simp; rfl
           simp only [Act.put, List.setIfInBounds_toArray, List.set_cons_succ, List.set_cons_zero, Nat.reduceAdd]
           refine wM_val ?uq9 rfl rfl (Deal.refl D2) (fun w' hD => ?hq9) (fun phq9 => ?nq9)
           case hq9 =>
             obtain ⟨⟨e0, e1, e2⟩, f0⟩ := FX.out w' hD.1.1
             go_simp; rfl
           simp only [Act.put, List.setIfInBounds_toArray, List.set_cons_succ, List.set_cons_zero, Nat.reduceAdd]
           refine wM_op _ rfl rfl (opens_call ?fq10 ?gq10 (fun w' hD => ?hq10) (fun w' hD => ?cq10)) (fun v10 hv10 => ?nq10)
           case hq10 => go_simp; constructor <;> rfl
           case cq10 =>
             refine (upto_any D2 9 w' hD.1.2 (by omega) (by omega)).mono ?_
             rintro e w2 ⟨r, rfl, r1, r2, hb, hh⟩
             exact ⟨_, rfl, Deal.mk' hb hh, r, rfl, r1, by omega⟩
           obtain ⟨_, -, -, k9, rfl, hq3, hq4⟩ := hv10
           simp only [Act.put, List.setIfInBounds_toArray, List.set_cons_succ, List.set_cons_zero, Nat.reduceAdd]
           have ws9 : IntKind.i64.wrap (sh + k9) = sh + k9 := IntWalk.i64_in _ ⟨by have := HSH.out; omega, by have := HSH.out; omega⟩
           refine wM_val ?uq11 rfl rfl (Deal.refl D2) (fun w' hD => ?hq11) (fun phq11 => ?nq11)
           case hq11 =>
             obtain ⟨⟨e0, e1, e2⟩, f0⟩ := FX.out w' hD.1.1
             go_simp; rfl
           simp only [Act.put, List.setIfInBounds_toArray, List.set_cons_succ, List.set_cons_zero, Nat.reduceAdd]
           refine wM_val ?uq12 rfl rfl (Deal.refl D2) (fun w' hD => ?hq12) (fun phq12 => ?nq12)
           case hq12 =>
             obtain ⟨⟨e0, e1, e2⟩, f0⟩ := FX.out w' hD.1.1
             go_simp; rfl
           simp only [Act.put, List.setIfInBounds_toArray, List.set_cons_succ, List.set_cons_zero, Nat.reduceAdd]
           refine wM_val ?uq13 rfl rfl (Deal.refl D2) (fun w' hD => ?hq13) (fun phq13 => ?nq13)
           case hq13 =>
             obtain ⟨⟨e0, e1, e2⟩, f0⟩ := FX.out w' hD.1.1
             go_simp; rfl
           simp only [Act.put, List.setIfInBounds_toArray, List.set_cons_succ, List.set_cons_zero, Nat.reduceAdd]
           refine wM_op _ rfl rfl (opens_call ?fq14 ?gq14 (fun w' hD => ?hq14) (fun w' hD => ?cq14)) (fun v14 hv14 => ?nq14)
           case hq14 => go_simp; constructor <;> rfl
           case cq14 =>
             refine (from_any D2 1 sh w' hD.1.2 (by omega) (by omega) (by have := HSH.out; omega) (by have := HSH.out; omega)).mono ?_
             rintro e w2 ⟨r, rfl, r1, r2, hb, hh⟩
             exact ⟨_, rfl, Deal.mk' hb hh, r, rfl, r1, by have := HSH.out; omega⟩
           obtain ⟨_, -, -, fr, rfl, hq5, hq6⟩ := hv14
           simp only [Act.put, List.setIfInBounds_toArray, List.set_cons_succ, List.set_cons_zero, Nat.reduceAdd]
           refine wM_val ?uq15 rfl rfl (Deal.refl D2) (fun w' hD => ?hq15) (fun phq15 => ?nq15)
           case hq15 =>
             obtain ⟨⟨e0, e1, e2⟩, f0⟩ := FX.out w' hD.1.1
             go_simp; rfl
           simp only [Act.put, List.setIfInBounds_toArray, List.set_cons_succ, List.set_cons_zero, Nat.reduceAdd]
           refine wM_op _ rfl rfl (opens_call ?fq16 ?gq16 (fun w' hD => ?hq16) (fun w' hD => ?cq16)) (fun v16 hv16 => ?nq16)
           case hq16 => go_simp; constructor <;> rfl
           case cq16 =>
             refine (HWGO.out mo3 k9 fr w').mono ?_
             rintro e w2 ⟨rfl, hb⟩
             refine ⟨_, rfl, Deal.ext hb, ⟨mo3, sh, sh + k9, fr, sh⟩, rfl, ⟨⟨hq1, hq2⟩, ?_⟩⟩
             have := HSH.out
             exact ⟨⟨by show 1 ≤ sh; omega, by show sh ≤ sh + k9; omega, by show sh + k9 ≤ 1000; omega⟩, hq5, hq6, by show sh ≤ 1000; omega⟩
           obtain ⟨_, -, -, x3, rfl, hx3o⟩ := hv16
           simp only [Act.put, List.setIfInBounds_toArray, List.set_cons_succ, List.set_cons_zero, Nat.reduceAdd]
           refine wM_op _ rfl rfl (opens_val (fun w' hD => ?hbq17)) (fun v17 hv17 => ?nbq17)
           case hbq17 =>
             refine ⟨.slice (some ⟨w'.heap.size, 0, none⟩) 1 1, w'.alloc (.cells (layWg.cells x3).toArray 55), ?_, Deal.ext (Ext.alloc (Ext.refl _) _), x3, _, rfl, hD.1.1.size, heap_alloc_new _ _, hx3o⟩
             unfold layWg
             go_simp
           obtain ⟨_, -, -, x4, b17, rfl, hz17, -, hx4o⟩ := hv17
           simp only [Act.put, List.setIfInBounds_toArray, List.set_cons_succ, List.set_cons_zero, Nat.reduceAdd]
           refine wM_nil ?_
           intro w9 hw9 hF9
           obtain ⟨-, x5, b17', e17, -, hb17, hx5o⟩ := hF9 17
           cases e17
           clear hF9
           simp only [List.drop_succ_cons, List.drop_zero]
           obtain ⟨hb9, hh9⟩ := hw9
           have ho9 := hb9.own ho8 (fun j hj e => by injection hj with q; have q2 : g = j := q; omega)
           have bu9 := hb9.heap bq8 (by omega)
           have hz9 := hb9.size
           have hg9 := ho9.lt g rfl
           have hk13 : k ≤ 13 := by have := HMD.out.ws; have := HN.out; omega
           obtain ⟨d0, d1, d2, fzu⟩ := house_cells bu9
           clear FX HWGO bq8
           go_wp2_with (at_builtin; refine wpList_append_rd2 _ rfl _ _ 23 rfl elem_wg wc.heap.size _ k (layWg.rows h.ws) rfl ho9 (some ⟨b17, 0, none⟩) 1 1 (layWg.cells x5) rfl rfl (rd_blk2 hb17) (layWg.one _) (by omega) (by have := hx67.size; have := hz9; have := hxA8.out.size; omega) ?_)
           intro A5 c5 w10 own10 bel10 gr10 at10
           have hS10 : BelS (fun j => j = g) w9 w10 := ((BelS.refl _ w9).grown gr10 (fun k e => e)).mono (fun j _ hj => by injection hj with e; exact e.symm)
           have bu10 := hS10.heap bu9 (by omega)
           rw [← layWg.rows_single, ← layWg.rows_app] at own10
           obtain ⟨W11, hW11⟩ : ∃ W, w10.setCell ⟨BU, 2, none⟩ (.slice A5 (k + 1) c5) = W := ⟨_, rfl⟩
           have hb11 : Bel BU w10 W11 := by rw [← hW11]; exact (Bel.refl _ _).setCell 2 _
           have bu11 : W11.heap[BU]? = some (.cells #[.int .i64 h.mo, .int .i64 h.pk, .slice A5 (k + 1) c5] 25 (0, 0)) := by rw [← hW11]; exact heap_setW bu10 _
           have own11 := hb11.own own10 (fun j hj e => own_neT own10 bu10 (by decide) (by rw [hj, e]))
           have hgw : wc.heap.size ≤ g := hgl.1
           have hzx := hx67.size
           have hz2c := hx2c.size
           have hz5c := (hx.trans hxAc.out).size
           have hBUw : wc.heap.size ≤ BU := by omega
           have hEA11 : BelS (fun j => j = D2 ∨ P5.heap.size ≤ j) P5 W11 := ((Ext.belS (hx.trans (hxAc.out.trans hx67))).trans ((HB8.out.belS (.inl rfl)).trans (hb9.belS (.inl rfl)))).trans ((hS10.mono fun j _ hj => by subst hj; exact .inr (Nat.le_trans hz5c hgw)).trans (hb11.belS (.inr (Nat.le_trans hz5c hBUw))))
           have hx211 : Ext P2 W11 := ((Ext.belS (S := fun j => P2.heap.size ≤ j) hx28).trans ((hb9.belS (by exact hD2P)).trans ((hS10.mono fun j _ hj => by subst hj; exact Nat.le_trans hz2c hgw).trans (hb11.belS (by exact Nat.le_trans hz2c hBUw))))).ext (fun j hj hS => by omega)
           obtain ⟨⟨q0, q1⟩, q2, q3⟩ := HLB.out P5 (Ext.refl _)
           have nd1 : ¬ (w4.heap.size = D2 ∨ P5.heap.size ≤ w4.heap.size) := HND.out.1
           have nd2 : ¬ (w4.heap.size + 1 = D2 ∨ P5.heap.size ≤ w4.heap.size + 1) := HND.out.2
           have HL4 : Hid (W11.cell? ⟨w4.heap.size, 0, none⟩ = some (.int .i64 lo.1) ∧ W11.cell? ⟨w4.heap.size, 1, none⟩ = some (.int .i64 lo.2) ∧ W11.cell? ⟨w4.heap.size + 1, 0, none⟩ = some (.int .i64 hi.1) ∧ W11.cell? ⟨w4.heap.size + 1, 1, none⟩ = some (.int .i64 hi.2)) := ⟨hEA11.cell q0 nd1, hEA11.cell q1 nd1, hEA11.cell q2 nd2, hEA11.cell q3 nd2⟩
           have hsz1 : (addH h x5).sized := by unfold Hs.sized addH; rw [List.length_append, HN.out]; simp; omega
           have KB := hid (bounds_any _ (addH h x5) m W11 (hsr_add HN.out own11) hsz1)
           have hmore := HMO.out x5 hx5o
           have hsm2 := bnd_sm (m := m) (add_ok HK.out (by rw [HN.out]; exact hk13) hx5o)
           obtain ⟨a2, ha2⟩ : ∃ X, bndL (addH h x5) m = X := ⟨_, rfl⟩
           obtain ⟨b2, hb2⟩ : ∃ X, bndU (addH h x5) m = X := ⟨_, rfl⟩
           obtain ⟨E2, hE2⟩ : ∃ X, bndE (addH h x5) m = X := ⟨_, rfl⟩
           rw [ha2, hb2, hE2] at KB hmore
           rw [ha2, hb2] at hsm2
           unfold rval at KB
           have HMR := hid hmore
           have HSM2 := hid hsm2
           obtain ⟨d0, d1, d2, fzu⟩ := house_cells bu10
           clear ha2 hb2 hE2 hmore hsm2 hEA11 q0 q1 q2 q3 nd1 nd2 hsz1 own11 hS10 hb11 gr10 bel10 at10 HMO HLB
           go_upto_region 38 with fail
           try rw [hW11]
           clear hW11 own10 bu10 d0 d1 d2 fzu
           obtain ⟨d0, d1, d2, fzu⟩ := house_cells bu11
           go_wp2_with fail
           refine KB.out.mono ?_
           rintro e w12 ⟨rfl, hx12⟩
           clear KB d0 d1 d2 fzu bu11
           go_upto_region 39 with fail
           obtain ⟨P13, hP13⟩ : ∃ P, (w12.alloc (.cells #[.int .i64 a2.1, .int .i64 a2.2] 43)).alloc (.cells #[.int .i64 b2.1, .int .i64 b2.2] 43) = P := ⟨_, rfl⟩
           have xP13 : Ext w12 P13 := by rw [← hP13]; exact (Ext.refl _).alloc _ |>.alloc _
           have bP13a : P13.heap[w12.heap.size]? = some (.cells #[.int .i64 a2.1, .int .i64 a2.2] 43 (0, 0)) := by rw [← hP13]; exact (Below.heap_alloc _ _ _ (by simp)).trans (heap_alloc_new w12 _)
           have bP13b : P13.heap[w12.heap.size + 1]? = some (.cells #[.int .i64 b2.1, .int .i64 b2.2] 43 (0, 0)) := by
             rw [← hP13]
             have q := heap_alloc_new (w12.alloc (.cells #[.int .i64 a2.1, .int .i64 a2.2] 43)) (.cells #[.int .i64 b2.1, .int .i64 b2.2] 43)
             rw [World.size_alloc] at q
             exact q
           try rw [hP13]
           clear hP13
           obtain ⟨k0, k1, -⟩ := rat_cells bP13a
           obtain ⟨k2, k3, -⟩ := rat_cells bP13b
           have hx13 := hx12.trans xP13
           obtain ⟨l0, l1, l2, l3⟩ := HL4.out
           have l0 := hx13.cell l0
           have l1 := hx13.cell l1
           have l2 := hx13.cell l2
           have l3 := hx13.cell l3
           have hxF := hx2.trans (hx211.trans hx13)
           clear bP13a bP13b HL4 xP13 hx12 hx13
           rcases HMR.out with e7 | ⟨e6, e6b⟩ | ⟨e0, hle⟩
           · subst e7
             clear HMR
             go_wp2_with fail
             refine (awake_any _).mono ?_
             rintro e wq ⟨rfl, hxq⟩
             go_wp2
             go_ret
             exact ⟨rfl, hxF.trans hxq⟩
           · subst e6
             subst e6b
             clear HMR
             go_wp2_with fail
             refine (awake_any _).mono ?_
             rintro e wq ⟨rfl, hxq⟩
             go_wp2
             go_ret
             exact ⟨rfl, hxF.trans hxq⟩
           · subst e0
             rcases H06.out with e6 | e6
             · subst e6
               clear HMR
               go_wp2_with fail
               refine (awake_any _).mono ?_
               rintro e wq ⟨rfl, hxq⟩
               go_wp2
               go_ret
               exact ⟨rfl, hxF.trans hxq⟩
             · have h2 := hle e6
               subst e6
               unfold leR at h2
               have p1 := mul_small HSM2.out.1.1 HLO.out.2
               have p2 := mul_small HLO.out.1 HSM2.out.1.2
               have p3 := mul_small HSM2.out.2.1 HHI.out.2
               have p4 := mul_small HHI.out.1 HSM2.out.2.2
               have V1 : IntKind.i64.wrap (a2.1 * lo.2) = a2.1 * lo.2 := IntWalk.i64_in _ ⟨by omega, by omega⟩
               have V2 : IntKind.i64.wrap (lo.1 * a2.2) = lo.1 * a2.2 := IntWalk.i64_in _ ⟨by omega, by omega⟩
               have V3 : IntKind.i64.wrap (b2.1 * hi.2) = b2.1 * hi.2 := IntWalk.i64_in _ ⟨by omega, by omega⟩
               have V4 : IntKind.i64.wrap (hi.1 * b2.2) = hi.1 * b2.2 := IntWalk.i64_in _ ⟨by omega, by omega⟩
               have g1 : a2.1 * lo.2 ≥ lo.1 * a2.2 := h2.1
               have g2 : b2.1 * hi.2 ≤ hi.1 * b2.2 := h2.2
               clear p1 p2 p3 p4 h2 hle HMR
               go_wp2_with fail
               refine (awake_any _).mono ?_
               rintro e wq ⟨rfl, hxq⟩
               go_wp2
               go_ret
               exact ⟨rfl, hxF.trans hxq⟩
end Go.Proofs.Ytjnobdcbbboeeaa
