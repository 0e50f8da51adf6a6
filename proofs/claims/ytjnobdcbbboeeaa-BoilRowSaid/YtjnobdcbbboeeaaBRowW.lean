/- The walk of BoilRow. Printed by my gen_browl.py. -/
import Derived.Test.YtjnobdcbbboeeaaBLwc
import Derived.Test.YtjnobdcbbboeeaaHa
import Derived.Deep.DeepCutAuto
import Derived.Deep.CutBlock
import Derived.Deep.QuietTactic
import Derived.BigQuiet
namespace Go.Proofs.Ytjnobdcbbboeeaa
open Go Go.RowKit Go.Shelf
set_option linter.unusedVariables false
set_option linter.unusedSimpArgs false

theorem claL_trans {h : Hs} (k : HsOK h) {a b c : Nat} (ha : a < h.ws.length) (hb : b < h.ws.length) (hc : c < h.ws.length) (h1 : claL h a b = true) (h2 : claL h b c = true) : claL h a c = true := by
  rw [claL_is k ha hb] at h1
  rw [claL_is k hb hc] at h2
  rw [claL_is k ha hc]
  exact claH_trans k ha hb hc h1 h2
set_option maxRecDepth 100000 in
set_option maxHeartbeats 16000000 in
theorem boilrow_any (A : Option Addr) (l : List Int) (cap : Nat) (a b c : Int) (w : World) (hA : Bytes w A l) (hl : ∀ x ∈ l, 0 ≤ x ∧ x ≤ 255) (hlt : ∀ x, A = some x → l = [] ∨ x.block < w.heap.size) (hn : l.length ≤ 9223372036854775807) (ha : 0 ≤ a ∧ a ≤ 255) (hb : 0 ≤ b ∧ b ≤ 255) (hc : 0 ≤ c ∧ c ≤ 255) :
    Calls Try.prog 3 #[.slice A l.length cap, .int .u8 a, .int .u8 b, .int .u8 c] w fun e w' => e = .returned (.bool true) ∧ Below w.heap.size w w' := by
  obtain ⟨a, rfl⟩ : ∃ n : Nat, a = n := ⟨a.toNat, by omega⟩
  obtain ⟨b, rfl⟩ : ∃ n : Nat, b = n := ⟨b.toNat, by omega⟩
  obtain ⟨c, rfl⟩ : ∃ n : Nat, c = n := ⟨c.toNat, by omega⟩
  go_enter Try.func3, Try.ntmps3
  go_wp2_with fail
  refine (pile_any A l cap w hA hl hlt hn).mono ?_
  rintro e w1 ⟨D, rfl, hD, x1, hh1⟩
  go_wp2_with fail
  refine (made_any D 12 9 2 w1 hh1 (by decide) (by decide) (by decide) (by decide)).mono ?_
  rintro e w2 ⟨h, rl, Ah, ch, A2, c2, rfl, HM, hoh, hor, hb2, -⟩
  have x2 : Ext w w2 := Bel.extw x1 hb2 hD
  have k := HM.ok
  have hr2 : HsR w2 (hval h Ah ch) h := hsr_own hoh
  clear hoh hor hb2 hh1 x1 HM
  unfold hval
  go_upto_region 2 with fail
  obtain ⟨P2, hP2⟩ : ∃ P2, w2.alloc (.cells #[.int .i64 h.mo, .int .i64 h.pk, .slice Ah h.ws.length ch] 25) = P2 := ⟨_, rfl⟩
  have xp : Ext w2 P2 := by rw [← hP2]; exact Ext.alloc (Ext.refl _) _
  have bp : P2.heap[w2.heap.size]? = some (.cells #[.int .i64 h.mo, .int .i64 h.pk, .slice Ah h.ws.length ch] 25 (0, 0)) := by rw [← hP2]; exact heap_alloc_new _ _
  try rw [hP2]
  clear hP2
  have hx2 : Ext w P2 := x2.trans xp
  have FH : Hid (∀ w', Ext P2 w' → w'.cell? ⟨w2.heap.size, 0, none⟩ = some (.int .i64 h.mo) ∧ w'.cell? ⟨w2.heap.size, 1, none⟩ = some (.int .i64 h.pk) ∧ w'.cell? ⟨w2.heap.size, 2, none⟩ = some (.slice Ah h.ws.length ch)) := fun w' hx => by
    obtain ⟨q0, q1, q2, -⟩ := house_cells bp
    exact ⟨hx.cell q0, hx.cell q1, hx.cell q2⟩
  have HR : Hid (∀ w', Ext P2 w' → HsR w' (hval h Ah ch) h) := fun w' hx => (hr2.ext xp).ext hx
  have KC : Hid (∀ (x y : Nat) w', Ext P2 w' → x < h.ws.length → y < h.ws.length → Calls Try.prog 15 #[hval h Ah ch, .int .i64 (x : Int), .int .i64 (y : Int)] w' fun e w2 => e = .returned (.bool (claL h x y)) ∧ Ext w' w2) := fun x y w' hx h1 h2 => lclash_any _ h x y w' (HR.out w' hx) k h1 h2
  have HTR : Hid (∀ x y z : Nat, x < h.ws.length → y < h.ws.length → z < h.ws.length → claL h x y = true → claL h y z = true → claL h x z = true) := fun x y z h1 h2 h3 => claL_trans k h1 h2 h3
  have hs : h.sized := by unfold Hs.sized; have := k.len; omega
  have HK := hid k
  have hmo := k.mo
  have hpk := k.pk
  have hlen := k.len
  clear k bp hr2 x2 xp
  obtain ⟨N, hN⟩ : ∃ N : Nat, h.ws.length = N := ⟨_, rfl⟩
  have HN := hid hN
  rw [hN] at FH KC HTR hlen ⊢
  unfold hval at KC
  rw [hN] at KC
  clear hN
  obtain ⟨c0, c1, c2'⟩ := FH.out P2 (Ext.refl _)
  go_wp2_with fail
  clear c0 c1 c2'
  go_loopw [40] (fun i wr => ∃ i0 : Nat, i = .int .i64 (i0 : Int) ∧ i0 ≤ N ∧ Ext P2 wr) (fun i _ => N - (intOf i).toNat)
  case atStart => exact ⟨0, rfl, Nat.zero_le _, Ext.refl _⟩
  case round =>
    obtain ⟨i, rfl, hi, hxi⟩ := hrel
    by_cases hlt1 : i < N
    · have hlt1' : (i : Int) < (N : Int) := by omega
      obtain ⟨c0, c1, c2'⟩ := FH.out wr hxi
      go_wp2_with fail
      clear c0 c1 c2'
      obtain ⟨wi, hwi⟩ : ∃ wi, wr = wi := ⟨_, rfl⟩
      rw [hwi] at hxi ⊢
      go_loopw [46] (fun j wr => ∃ j0 : Nat, j = .int .i64 (j0 : Int) ∧ j0 ≤ N ∧ Ext P2 wr) (fun j _ => N - (intOf j).toNat)
      case atStart => exact ⟨0, rfl, Nat.zero_le _, hxi⟩
      case round =>
        obtain ⟨j, rfl, hj, hxj⟩ := hrel
        by_cases hlt2 : j < N
        · have hlt2' : (j : Int) < (N : Int) := by omega
          obtain ⟨c0, c1, c2'⟩ := FH.out wr hxj
          go_wp2_with fail
          clear c0 c1 c2'
          go_loopw [52] (fun q wr => ∃ q0 : Nat, q = .int .i64 (q0 : Int) ∧ q0 ≤ N ∧ Ext P2 wr) (fun q _ => N - (intOf q).toNat)
          case atStart => exact ⟨0, rfl, Nat.zero_le _, hxj⟩
          case round =>
            obtain ⟨q, rfl, hq, hxq⟩ := hrel
            by_cases hlt3 : q < N
            · have hlt3' : (q : Int) < (N : Int) := by omega
              obtain ⟨c0, c1, c2'⟩ := FH.out wr hxq
              go_wp2_with fail
              refine (KC.out i j wr hxq hlt1 hlt2).mono ?_
              rintro e w5 ⟨rfl, hx5⟩
              have hxq5 := hxq.trans hx5
              have c0 := hx5.cell c0
              have c1 := hx5.cell c1
              have c2' := hx5.cell c2'
              cases q1 : claL h i j with
              | false =>
                clear q1
                go_wp2
                go_roundw
                case rel => exact ⟨q + 1, by go_num, by omega, hxq5⟩
                case measure => simp [intOf]; omega
              | true =>
                go_wp2_with fail
                refine (KC.out j q w5 hxq5 hlt2 hlt3).mono ?_
                rintro e w6 ⟨rfl, hx6⟩
                have hxq6 := hxq5.trans hx6
                have c0 := hx6.cell c0
                have c1 := hx6.cell c1
                have c2' := hx6.cell c2'
                cases q2 : claL h j q with
                | false =>
                  clear q1 q2
                  go_wp2
                  go_roundw
                  case rel => exact ⟨q + 1, by go_num, by omega, hxq6⟩
                  case measure => simp [intOf]; omega
                | true =>
                  have HQ := hid (HTR.out i j q hlt1 hlt2 hlt3 q1 q2)
                  clear q1 q2
                  go_wp2_with fail
                  refine (KC.out i q w6 hxq6 hlt1 hlt3).mono ?_
                  rw [HQ.out]
                  rintro e w7 ⟨rfl, hx7⟩
                  go_wp2
                  go_roundw
                  case rel => exact ⟨q + 1, by go_num, by omega, hxq6.trans hx7⟩
                  case measure => simp [intOf]; omega
            · have hlt3' : ¬ (q : Int) < (N : Int) := by omega
              go_wp2
              go_roundw
              case rel => exact ⟨j + 1, by go_num, by omega, hxq⟩
              case measure => simp [intOf]; omega
        · have hlt2' : ¬ (j : Int) < (N : Int) := by omega
          go_wp2
          go_roundw
          case rel => exact ⟨i + 1, by go_num, by omega, hxj⟩
          case measure => simp [intOf]; omega
    · have hlt1' : ¬ (i : Int) < (N : Int) := by omega
      have hmz : h.mo ≠ 0 := by omega
      obtain ⟨c0, c1, c2'⟩ := FH.out wr hxi
      go_upto_region 16 with fail
      clear hlt1 hlt1' hi HTR
      go_quiet (fail)
      go_upto_region 17 with fail
      obtain ⟨W5, hW5⟩ : ∃ W5, wr.drewN nq = W5 := ⟨_, rfl⟩
      have hx5 : Ext P2 W5 := by rw [← hW5]; exact Ext.drewN hxi _
      try rw [hW5]
      clear hW5 hxi c0 c1 c2'
      obtain ⟨X, hX⟩ : ∃ X, (a : Int) % h.mo = X := ⟨_, rfl⟩
      obtain ⟨Y, hY⟩ : ∃ Y, (b : Int) % h.mo = Y := ⟨_, rfl⟩
      obtain ⟨Z, hZ⟩ : ∃ Z, (c : Int) % h.mo = Z := ⟨_, rfl⟩
      have hXr : 0 ≤ X ∧ X < h.mo := by rw [← hX]; exact ⟨Int.emod_nonneg _ hmz, Int.emod_lt_of_pos _ (by omega)⟩
      have hYr : 0 ≤ Y ∧ Y < h.mo := by rw [← hY]; exact ⟨Int.emod_nonneg _ hmz, Int.emod_lt_of_pos _ (by omega)⟩
      have hZr : 0 ≤ Z ∧ Z < h.mo := by rw [← hZ]; exact ⟨Int.emod_nonneg _ hmz, Int.emod_lt_of_pos _ (by omega)⟩
      rw [hX, hY, hZ]
      clear hX hY hZ
      have KU : Hid (∀ (p q : Int) w', Ext P2 w' → (0 ≤ p ∧ p < h.mo) → (0 ≤ q ∧ q < h.mo) → Calls Try.prog 16 #[hval h Ah ch, .int .i64 p, .int .i64 q] w' fun e w2 => e = .returned (.tuple #[.bool (undH h p q), .int .i64 0]) ∧ Ext w' w2) := fun p q w' hx h1 h2 => by
        have K := undx_any _ h p q w' (HR.out w' hx) hs
        have e0 : undE h p q = 0 := by
          unfold undE
          rw [checkH_of HK.out, if_neg (by simp), if_pos (by unfold moOK; rw [Bool.and_eq_true, inB_iff, inB_iff]; omega)]
        have e1 : undV h p q = undH h p q := by unfold undV; rw [e0]; simp
        rw [e0, e1] at K
        exact K
      unfold hval at KU
      rw [HN.out] at KU
      obtain ⟨c0, c1, c2'⟩ := FH.out W5 hx5
      go_wp2_with fail
      refine (KU.out X Y W5 hx5 hXr hYr).mono ?_
      rintro e w6 ⟨rfl, hz6⟩
      have hxu6 := hx5.trans hz6
      clear hx5 hz6 c0 c1 c2'
      obtain ⟨c0, c1, c2'⟩ := FH.out w6 hxu6
      go_wp2_with fail
      refine (KU.out Y Z w6 hxu6 hYr hZr).mono ?_
      rintro e w7 ⟨rfl, hz7⟩
      have hxu7 := hxu6.trans hz7
      clear hxu6 hz7 c0 c1 c2'
      obtain ⟨c0, c1, c2'⟩ := FH.out w7 hxu7
      go_wp2_with fail
      refine (KU.out X Z w7 hxu7 hXr hZr).mono ?_
      rintro e w8 ⟨rfl, hz8⟩
      have hxu8 := hxu7.trans hz8
      clear hxu7 hz8 c0 c1 c2'
      obtain ⟨c0, c1, c2'⟩ := FH.out w8 hxu8
      go_wp2_with fail
      refine (KU.out X h.pk w8 hxu8 hXr ⟨hpk.1, hpk.2⟩).mono ?_
      rintro e w9 ⟨rfl, hz9⟩
      have hxu9 := hxu8.trans hz9
      clear hxu8 hz9 c0 c1 c2'
      obtain ⟨c0, c1, c2'⟩ := FH.out w9 hxu9
      go_wp2_with fail
      refine (KU.out Y X w9 hxu9 hYr hXr).mono ?_
      rintro e w10 ⟨rfl, hz10⟩
      have hxu10 := hxu9.trans hz10
      clear hxu9 hz10 c0 c1 c2'
      have HU4 : Hid (undH h X h.pk = true) := und_top h X
      have HUT : Hid (undH h X Y = true → undH h Y Z = true → undH h X Z = true) := fun h1 h2 => und_trans h1 h2
      have HUA : Hid (undH h X Y = true → undH h Y X = true → X = Y) := fun h1 h2 => und_anti h1 h2
      obtain ⟨B1, hB1⟩ : ∃ B, undH h X Y = B := ⟨_, rfl⟩
      obtain ⟨B2, hB2⟩ : ∃ B, undH h Y Z = B := ⟨_, rfl⟩
      obtain ⟨B3, hB3⟩ : ∃ B, undH h X Z = B := ⟨_, rfl⟩
      obtain ⟨B5, hB5⟩ : ∃ B, undH h Y X = B := ⟨_, rfl⟩
      rw [hB1, hB2, hB3] at HUT
      rw [hB1, hB5] at HUA
      try rw [hB1, hB2, hB3, HU4.out, hB5]
      clear hB1 hB2 hB3 hB5 HU4 KU
      go_upto_region 22 with fail
      go_cut [168] (fun s168 wx => s168 = .bool false ∧ w10 = wx)
      case first =>
        cases B1 with
        | false =>
          go_wp2_with fail
          go_meet
          exact ⟨rfl, rfl⟩
        | true =>
          cases B2 with
          | false =>
            cases B5 with
            | false =>
              go_wp2_with fail
              go_meet
              exact ⟨rfl, rfl⟩
            | true =>
              have hXY := HUA.out rfl rfl
              subst hXY
              go_wp2_with fail
              go_meet
              exact ⟨rfl, rfl⟩
          | true =>
            obtain rfl := HUT.out rfl rfl
            cases B5 with
            | false =>
              go_wp2_with fail
              go_meet
              exact ⟨rfl, rfl⟩
            | true =>
              have hXY := HUA.out rfl rfl
              subst hXY
              go_wp2_with fail
              go_meet
              exact ⟨rfl, rfl⟩
      case rest =>
        obtain ⟨rfl, hwc⟩ := hcut
        subst hwc
        obtain ⟨c0, c1, c2'⟩ := FH.out w10 hxu10
        have KCL := hid (clash_any _ h w10 (HR.out w10 hxu10) hs)
        unfold hval claRes at KCL
        rw [HN.out] at KCL
        obtain ⟨CV, hCV⟩ : ∃ CV, claV h = CV := ⟨_, rfl⟩
        obtain ⟨CE, hCE⟩ : ∃ CE, claE h = CE := ⟨_, rfl⟩
        rw [hCV, hCE] at KCL
        have HROW : Hid ((CE = 6 ∧ fstF (restF h 0) = (-1, 0)) ∨ (CE = 0 ∧ CV = fstF (restF h 0) ∧ 0 ≤ (fstF (restF h 0)).1)) := by
          unfold Hid
          rw [rest_all h HK.out, ← hCV, ← hCE]
          rcases row_first h HK.out with ⟨h1, -, h2⟩ | h1
          · exact .inl ⟨h1, h2⟩
          · exact .inr h1
        clear hCV hCE HUT HUA
        go_wp2_with fail
        refine KCL.out.mono ?_
        rintro e w11 ⟨rfl, hx11⟩
        have hxx := hxu10.trans hx11
        clear KCL c0 c1 c2' hxu10 hx11
        go_upto_region 26 with fail
        obtain ⟨P8, hP8⟩ : ∃ P8, (w11.alloc (.cells #[.int .i64 CV.1, .int .i64 CV.2] 36)).alloc (.cells #[.int .i64 (-1), .int .i64 0] 36) = P8 := ⟨_, rfl⟩
        have x8 : Ext w11 P8 := by rw [← hP8]; exact (Ext.refl _).alloc _ |>.alloc _
        have bp8 : P8.heap[w11.heap.size]? = some (.cells #[.int .i64 CV.1, .int .i64 CV.2] 36 (0, 0)) := by rw [← hP8]; exact (Below.heap_alloc _ _ _ (by simp)).trans (heap_alloc_new w11 _)
        have bq8 : P8.heap[w11.heap.size + 1]? = some (.cells #[.int .i64 (-1), .int .i64 0] 36 (0, 0)) := by
          rw [← hP8]
          have q := heap_alloc_new (w11.alloc (.cells #[.int .i64 CV.1, .int .i64 CV.2] 36)) (.cells #[.int .i64 (-1), .int .i64 0] 36)
          rw [World.size_alloc] at q
          exact q
        try rw [hP8]
        clear hP8
        have hx8 := hxx.trans x8
        have hsz : P2.heap.size ≤ w11.heap.size := hxx.size
        have hpl : w11.heap.size + 1 < P8.heap.size := (Array.getElem?_eq_some_iff.1 bq8).1
        obtain ⟨c0, c1, c2'⟩ := FH.out P8 hx8
        go_wp2_with fail
        clear c0 c1 c2' hxx x8
        have HE0 : Hid (((-1 : Int), (0 : Int)) = fstF (restF h N)) := by unfold Hid; rw [← HN.out, rest_end]; rfl
        go_loopw [29] (fun i wr => ∃ (z : Int) (m : Nat) (p : Int × Int), i = .int .i64 z ∧ z + 1 = m ∧ m ≤ N ∧ Hid (p = fstF (restF h m)) ∧ wr.heap[w11.heap.size + 1]? = some (.cells #[.int .i64 p.1, .int .i64 p.2] 36 (0, 0)) ∧ Bel (w11.heap.size + 1) P8 wr) (fun i _ => (intOf i + 1).toNat)
        case atStart => exact ⟨(N : Int) - 1, N, (-1, 0), by go_num, by omega, Nat.le_refl _, HE0, bq8, Bel.refl _ _⟩
        case round =>
          obtain ⟨z, m, p, rfl, hzm, hmN, HP, hbk, hbl⟩ := hrel
          by_cases hz0 : 0 ≤ z
          · obtain ⟨i2, rfl⟩ : ∃ i2 : Nat, z = i2 := ⟨z.toNat, by omega⟩
            obtain rfl : m = i2 + 1 := by omega
            have hiN : i2 < N := by omega
            have hxr : Ext P2 wr := Bel.extw hx8 hbl (by omega)
            obtain ⟨c0, c1, c2'⟩ := FH.out wr hxr
            have HS0 : Hid (p = fstF (curF h i2 N)) := by unfold Hid; rw [← HN.out, cur_end]; exact HP.out
            go_wp2_with fail
            clear c0 c1 c2' HP
            go_loopw [30] (fun j wr => ∃ (z : Int) (m : Nat) (p : Int × Int), j = .int .i64 z ∧ z + 1 = m ∧ m ≤ N ∧ Hid (p = fstF (curF h i2 m)) ∧ wr.heap[w11.heap.size + 1]? = some (.cells #[.int .i64 p.1, .int .i64 p.2] 36 (0, 0)) ∧ Bel (w11.heap.size + 1) P8 wr) (fun j _ => (intOf j + 1).toNat)
            case atStart => exact ⟨(N : Int) - 1, N, p, by go_num, by omega, Nat.le_refl _, HS0, hbk, hbl⟩
            case round =>
              obtain ⟨z, m, p, rfl, hzm, hmN, HP, hbk, hbl⟩ := hrel
              by_cases hz1 : 0 ≤ z
              · obtain ⟨j2, rfl⟩ : ∃ j2 : Nat, z = j2 := ⟨z.toNat, by omega⟩
                obtain rfl : m = j2 + 1 := by omega
                have hjN : j2 < N := by omega
                have hxr : Ext P2 wr := Bel.extw hx8 hbl (by omega)
                obtain ⟨c0, c1, c2'⟩ := FH.out wr hxr
                have HNX : Hid (fstF (curF h i2 j2) = if claL h i2 j2 = true then ((i2 : Int), (j2 : Int)) else fstF (curF h i2 (j2 + 1))) := cur_next h (by rw [HN.out]; exact hjN)
                go_wp2_with fail
                refine (KC.out i2 j2 wr hxr hiN hjN).mono ?_
                rintro e w12 ⟨rfl, hx12⟩
                have hbk12 := (Below.block hx12 _ (Array.getElem?_eq_some_iff.1 hbk).1).trans hbk
                have hbl12 := hbl.trans (Ext.bel hx12)
                clear c0 c1 c2' hbk hbl
                have f0 := blk_cells (xs := [.int .i64 p.1, .int .i64 p.2]) hbk12 0 _ rfl
                have f1 := blk_cells (xs := [.int .i64 p.1, .int .i64 p.2]) hbk12 1 _ rfl
                have ff : ∀ i, w12.frozen? ⟨w11.heap.size + 1, i, none⟩ = false := fun i => by simp [World.frozen?, hbk12]
                cases hcl : claL h i2 j2 with
                | false =>
                  have HN2 : Hid (p = fstF (curF h i2 j2)) := by unfold Hid; rw [HNX.out, hcl, HP.out]; rfl
                  clear hcl HNX HP
                  go_wp2
                  go_roundw
                  case rel => exact ⟨(j2 : Int) - 1, j2, p, by go_num, by omega, by omega, HN2, hbk12, hbl12⟩
                  case measure => simp [intOf]
                | true =>
                  have HN2 : Hid (((i2 : Int), (j2 : Int)) = fstF (curF h i2 j2)) := by unfold Hid; rw [HNX.out, hcl]; rfl
                  have hb13 := put_pair (i := 0) (cur := [.int .i64 p.1, .int .i64 p.2]) hbk12 (.int .i64 (i2 : Int)) (.int .i64 (j2 : Int))
                  have HB13 := hid hb13
                  clear hcl HNX HP hb13
                  go_wp2
                  go_roundw
                  case rel => exact ⟨(j2 : Int) - 1, j2, ((i2 : Int), (j2 : Int)), by go_num, by omega, by omega, HN2, HB13.out, (hbl12.setCell 0 _).setCell 1 _⟩
                  case measure => simp [intOf]
              · have hz1' : ¬ (z ≥ 0) := by omega
                obtain rfl : m = 0 := by omega
                have HN2 : Hid (p = fstF (restF h i2)) := by unfold Hid; rw [HP.out, cur_start h (by rw [HN.out]; exact hiN)]
                clear HP
                go_wp2
                go_roundw
                case rel => exact ⟨(i2 : Int) - 1, i2, p, by go_num, by omega, by omega, HN2, hbk, hbl⟩
                case measure => simp [intOf]
          · have hz0' : ¬ (z ≥ 0) := by omega
            obtain rfl : m = 0 := by omega
            have hxr : Ext P2 wr := Bel.extw hx8 hbl (by omega)
            have f0 := blk_cells (xs := [.int .i64 p.1, .int .i64 p.2]) hbk 0 _ rfl
            have f1 := blk_cells (xs := [.int .i64 p.1, .int .i64 p.2]) hbk 1 _ rfl
            have g0 := hbl.cell (blk_cells (xs := [.int .i64 CV.1, .int .i64 CV.2]) bp8 0 _ rfl) (show w11.heap.size ≠ w11.heap.size + 1 by omega)
            have g1 := hbl.cell (blk_cells (xs := [.int .i64 CV.1, .int .i64 CV.2]) bp8 1 _ rfl) (show w11.heap.size ≠ w11.heap.size + 1 by omega)
            clear hbk hbl bp8 bq8
            rcases HROW.out with ⟨r1, r2⟩ | ⟨r1, r2, r3⟩
            · have hp2 : p = (-1, 0) := by rw [HP.out, r2]
              subst hp2
              subst r1
              clear HP HROW r2
              go_wp2_with fail
              refine (awake_any wr).mono ?_
              rintro e w14 ⟨rfl, hx14⟩
              go_wp2
              go_ret
              exact ⟨rfl, hx2.trans (hxr.trans hx14)⟩
            · have hp2 : p = CV := by rw [HP.out, r2]
              have hp0 : 0 ≤ CV.1 := by rw [r2]; exact r3
              subst hp2
              subst r1
              clear HP HROW r2 r3
              have hp1 : ¬ p.1 < 0 := by omega
              go_wp2_with fail
              refine (awake_any wr).mono ?_
              rintro e w14 ⟨rfl, hx14⟩
              go_wp2
              go_ret
              exact ⟨rfl, hx2.trans (hxr.trans hx14)⟩
end Go.Proofs.Ytjnobdcbbboeeaa
