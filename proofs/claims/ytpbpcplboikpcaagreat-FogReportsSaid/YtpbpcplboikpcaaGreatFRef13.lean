/- The walk of the reference's Clash. My own. -/
import Derived.Test.YtpbpcplboikpcaaGreatFRepP
import Derived.Test.YtpbpcplboikpcaaGreatG9
import Derived.Test.YtpbpcplboikpcaaGreatGa
namespace Go.Proofs.YtpbpcplboikpcaaGreat
open Go Go.RowKit Go.Shelf
set_option linter.unusedVariables false
set_option linter.unusedSimpArgs false

/-- A row of numbers of somebody's own: of its type alone. -/
def OwnI (w : World) (A : Option Addr) (k : Nat) (l : List Int) : Prop := w.ownsRow 0 3 1 (.slice A l.length k) l.length (l.map (.int .i64))
theorem OwnI.ext {w w' : World} {A : Option Addr} {k : Nat} {l : List Int} (h : OwnI w A k l) (hx : Ext w w') : OwnI w' A k l := own_below h hx
theorem OwnI.ints {w : World} {A : Option Addr} {k : Nat} {l : List Int} (h : OwnI w A k l) : Ints w A l := Rd.of_own h
theorem OwnI.nil (w : World) : OwnI w none 0 [] := own_nil w 0 _ _
def RefClashPost (w : World) (R : Option (List Int)) (e : Ending) (w' : World) : Prop := ∃ r, e = .returned (.tuple #[r, .bool R.isSome]) ∧ Ext w w' ∧ ∃ A c, r = .slice A (R.getD []).length c ∧ OwnI w' A c (R.getD [])
/-- What is known of the best set so far. -/
def BestS (PR : List Int → Bool) (n j : Nat) (L : List Int) (Ab : Option Addr) (kb : Nat) (B : Bool) : Prop := (B = false → bestTo PR n j = none ∧ L = [] ∧ Ab = none ∧ kb = 0) ∧ (B = true → bestTo PR n j = some L ∧ ∃ a, Ab = some a)
set_option maxRecDepth 100000 in
set_option maxHeartbeats 8000000 in
theorem refclash_any (v : Value) (f : Fg) (k : Nat) (c : Ct) (w : World) (hf : RgR w v f (distL f)) (hs : f.sized) (hok : FogOK f) (hc : f.ct[k]? = some c) :
    Calls Tryz.prog 29 #[v, .int .i64 (k : Int)] w (RefClashPost w (clashF (farM f) f c)) := by
  have hnil := @Lib.run_eql_slice_nil Tryz.prog
  have hcm := mem_of_get hc
  have h8 := hok.rn c hcm
  obtain ⟨n, hn⟩ : ∃ n, c.rp.length = n := ⟨_, rfl⟩
  have hn8 : n ≤ 8 := by omega
  obtain ⟨PR, hPR⟩ : ∃ PR, (fun s => !agreedM (farM f) f c s) = PR := ⟨_, rfl⟩
  have HB1 : Hid (bestTo PR n 1 = none) := by rw [← hPR, ← hn]; exact best_one hok hcm
  have HPQ : Hid (∀ j, PR (someW (bit j) n) = decide (countM (farM f) f c (selS j) = 0)) := fun j => by rw [← hPR, ← hn]; exact count_p hok hcm j
  have HP0 : Hid (PR [] = false) := by unfold Hid; rw [← hPR]; show (!agreedM (farM f) f c []) = false; rw [agreed_none hok hcm]; rfl
  obtain ⟨R, hR⟩ : ∃ R, clashF (farM f) f c = R := ⟨_, rfl⟩
  have HR : Hid (bestTo PR n (2 ^ n) = R) := by unfold Hid; rw [best_is, ← hR, ← hPR, ← hn]; exact (clash_few hok hcm).symm
  obtain ⟨EV, hEV⟩ : ∃ EV, 2 ^ n = EV := ⟨_, rfl⟩
  have HEV := hid hEV
  have hEV1 : 1 ≤ EV := by rw [← hEV]; exact Nat.pow_pos (by omega)
  have hEV2 : EV ≤ 256 := by rw [← hEV]; exact pow_le8 hn8
  have HEC : Hid (everyN c = EV - 1) := by unfold Hid everyN; rw [hn, hEV]
  rw [hR]
  obtain ⟨s, A4, c4, rfl, hr, hd⟩ := hf
  have HS := hid hs
  have HOK := hid hok
  have HC := hid hc
  have HF : Hid (∀ w', Ext w w' → RgR w' (.agg #[.int .i64 f.pl, .int .i64 f.mi, .slice s.a1 f.tr.length s.c1, .slice s.a2 f.bl.length s.c2, .slice s.a3 f.ct.length s.c3, .slice A4 (distL f).length c4]) f (distL f)) := fun w' h => ⟨s, A4, c4, rfl, hr.ext h, hd.ext h⟩
  obtain ⟨W0, hW0⟩ : ∃ W0, w.alloc (.cells #[.int .i64 f.pl, .int .i64 f.mi, .slice s.a1 f.tr.length s.c1, .slice s.a2 f.bl.length s.c2, .slice s.a3 f.ct.length s.c3, .slice A4 (distL f).length c4] 37) = W0 := ⟨_, rfl⟩
  have hx0 : Ext w W0 := by rw [← hW0]; exact Ext.alloc (Ext.refl w) _
  have FX : Hid (∀ w', Ext W0 w' → w'.cell? ⟨w.heap.size, 0, none⟩ = some (.int .i64 f.pl) ∧ w'.cell? ⟨w.heap.size, 1, none⟩ = some (.int .i64 f.mi) ∧ w'.cell? ⟨w.heap.size, 2, none⟩ = some (.slice s.a1 f.tr.length s.c1) ∧ w'.cell? ⟨w.heap.size, 3, none⟩ = some (.slice s.a2 f.bl.length s.c2) ∧ w'.cell? ⟨w.heap.size, 4, none⟩ = some (.slice s.a3 f.ct.length s.c3) ∧ w'.cell? ⟨w.heap.size, 5, none⟩ = some (.slice A4 (distL f).length c4)) := fun w' h => ⟨h.cell (by rw [← hW0]; simp [go_sem]), h.cell (by rw [← hW0]; simp [go_sem]), h.cell (by rw [← hW0]; simp [go_sem]), h.cell (by rw [← hW0]; simp [go_sem]), h.cell (by rw [← hW0]; simp [go_sem]), h.cell (by rw [← hW0]; simp [go_sem])⟩
  unfold rval
  clear hPR hR hn hEV hcm hok hs hc h8
  go_enter Tryz.func29, Tryz.ntmps29
  go_wp2
  try rw [hW0]
  clear hW0
  go_loopw [7, 6] (fun i7 i6 wr => ∃ (j : Nat) (L : List Int) (Ab : Option Addr) (kb : Nat) (B : Bool), 1 ≤ j ∧ j ≤ EV ∧ i7 = .int .i64 (j : Int) ∧ i6 = .slice Ab L.length kb ∧ Hid (OwnI wr Ab kb L) ∧ Hid (BestS PR n j L Ab kb B) ∧ L.length ≤ 8 ∧ Ext W0 wr) (fun i _ _ => EV - (intOf i).toNat)
  case atStart => exact ⟨1, [], none, 0, false, Nat.le_refl _, hEV1, rfl, rfl, OwnI.nil _, ⟨fun _ => ⟨HB1.out, rfl, rfl, rfl⟩, fun h => (by cases h)⟩, by simp, Ext.refl _⟩
  case round =>
    obtain ⟨j, L, Ab, kb, B, hj1, hj, rfl, rfl, HIB, HB, hL8, hxr⟩ := hrel
    obtain ⟨d0, d1, d2, d3, d4, d5⟩ := FX.out wr hxr
    have K := refevery_any _ f (distL f) k c wr (HF.out wr (hx0.trans hxr)) HC.out (by have := HOK.out.rn c (mem_of_get HC.out); exact this)
    rw [HEC.out] at K
    have HK := hid K
    clear K
    go_wp2_with fail
    clear d0 d1 d2 d3 d4 d5
    refine HK.out.mono ?_
    clear HK
    rintro e w2 ⟨rfl, hb2⟩
    have hx2 := hxr.trans hb2
    have HIB2 := hid (HIB.out.ext hb2)
    clear HIB hb2
    by_cases hlj : j < EV
    · have hlj' : (j : Int) ≤ ((EV - 1 : Nat) : Int) := by omega
      have hl2 : (j : Int) ≤ (EV : Int) - 1 := by omega
      have K := members_any n j w2 (by omega) (by rw [HEV.out]; exact hlj)
      have HK := hid K
      clear K
      go_wp2_with fail
      refine HK.out.mono ?_
      clear HK
      rintro e w5 ⟨A5, c5, rfl, hown, hb5⟩
      obtain ⟨LL, hLL⟩ : ∃ LL, someW (bit j) n = LL := ⟨_, rfl⟩
      have HLE := hid hLL
      have hlen : LL.length ≤ n := by rw [← hLL]; exact someW_len _ _
      rw [hLL] at hown ⊢
      have HIL : Hid (OwnI w5 A5 c5 LL) := own_base hown (Nat.zero_le _)
      have HA5 : Hid (LL ≠ [] → ∃ a, A5 = some a) := fun hne => by
        rcases hown.2 with ⟨h1, h2⟩ | ⟨g, cap, cur, e1, _⟩
        · exact absurd (List.eq_nil_of_length_eq_zero h2) hne
        · cases e1; exact ⟨_, rfl⟩
      obtain ⟨CN, hCN⟩ : ∃ CN, countM (farM f) f c (selS j) = CN := ⟨_, rfl⟩
      have HCN := hid hCN
      have HPR : Hid (PR LL = decide (CN = 0)) := by unfold Hid; rw [← hLL, HPQ.out, hCN]
      have hx5 := hx2.trans hb5
      have HIB5 := hid (HIB2.out.ext hb5)
      have HCT : Hid (∀ w', Ext W0 w' → Calls Tryz.prog 36 #[.agg #[.int .i64 f.pl, .int .i64 f.mi, .slice s.a1 f.tr.length s.c1, .slice s.a2 f.bl.length s.c2, .slice s.a3 f.ct.length s.c3, .slice A4 (distL f).length c4], .int .i64 (k : Int), .int .i64 (j : Int)] w' fun e w2 => e = .returned (.int .i64 CN) ∧ Ext w' w2) := fun w' h => by
        have K := refcount_any _ f k c j w' (HF.out w' (hx0.trans h)) HS.out HOK.out HC.out (by omega)
        rw [hCN] at K
        exact K
      obtain ⟨mm, hmm⟩ : ∃ mm, LL.length = mm := ⟨_, rfl⟩
      have HLL := hid hmm
      rw [hmm] at hlen ⊢
      have hcap : (LL = [] → A5 = none ∨ True) := fun _ => .inr trivial
      clear hown hLL hCN hmm hcap HIB2
      cases B
      · obtain ⟨hbt, hL0, hA0, hk0⟩ := HB.out.1 rfl
        subst hL0
        subst hA0
        subst hk0
        have HBT := hid hbt
        clear hbt
        obtain ⟨d0, d1, d2, d3, d4, d5⟩ := FX.out w5 hx5
        go_wp2_with fail
        clear d0 d1 d2 d3 d4 d5
        refine (HCT.out w5 hx5).mono ?_
        rintro e w6 ⟨rfl, hb6⟩
        have hx6 := hx5.trans hb6
        by_cases h0 : CN = 0
        · have bz : (CN == 0) = true := by simp [h0]
          have HPT : Hid (PR LL = true) := by unfold Hid; rw [HPR.out, h0]; rfl
          have hne : LL ≠ [] := fun e => by have h := HPT.out; rw [e, HP0.out] at h; cases h
          obtain ⟨a5, ha5⟩ := HA5.out hne
          subst ha5
          have HB2 : Hid (BestS PR n (j + 1) LL (some a5) c5 true) := by
            refine ⟨fun h => (by cases h), fun _ => ⟨?_, a5, rfl⟩⟩
            have h := best_new HBT.out (by rw [HLE.out]; exact HPT.out)
            rw [HLE.out] at h
            exact h
          have HIN := hid (HIL.out.ext hb6)
          clear HB HBT h0 hne
          go_wp2
          go_roundw
          case rel => exact ⟨j + 1, LL, some a5, c5, true, by omega, by omega, by go_num, by rw [HLL.out], HIN, HB2, by rw [HLL.out]; omega, hx6⟩
          case measure => simp [intOf]; omega
        · have bz : (CN == 0) = false := by simpa using h0
          have HPT : Hid (PR LL = false) := by unfold Hid; rw [HPR.out]; simpa using h0
          have HB2 : Hid (BestS PR n (j + 1) [] none 0 false) :=
            ⟨fun _ => ⟨best_no HBT.out (by rw [HLE.out]; exact HPT.out), rfl, rfl, rfl⟩, fun h => (by cases h)⟩
          clear HB HBT h0
          go_wp2
          go_roundw
          case rel => exact ⟨j + 1, [], none, 0, false, by omega, by omega, by go_num, rfl, OwnI.nil _, HB2, by simp, hx6⟩
          case measure => simp [intOf]; omega
      · obtain ⟨hbt, a, hA0⟩ := HB.out.2 rfl
        subst hA0
        have HBT := hid hbt
        clear hbt
        obtain ⟨FW, hFW⟩ : ∃ FW, fewerL LL L = FW := ⟨_, rfl⟩
        have HFW := hid hFW
        have K := refahead_any A5 (some a) c5 kb LL L w5 HIL.out.ints HIB5.out.ints (by rw [HLL.out]; omega) (by omega)
        rw [HLL.out, hFW] at K
        have HK := hid K
        clear K hFW
        obtain ⟨d0, d1, d2, d3, d4, d5⟩ := FX.out w5 hx5
        go_wp2_with fail
        clear d0 d1 d2 d3 d4 d5
        refine HK.out.mono ?_
        clear HK
        rintro e w7 ⟨rfl, hb7⟩
        have hx7 := hx5.trans hb7
        have HIL7 := hid (HIL.out.ext hb7)
        have HIB7 := hid (HIB5.out.ext hb7)
        clear HIL HIB5 hb7
        cases FW
        · have HB2 : Hid (BestS PR n (j + 1) L (some a) kb true) :=
            ⟨fun h => (by cases h), fun _ => ⟨best_no2 HBT.out (by rw [HLE.out]; exact HFW.out), a, rfl⟩⟩
          clear HB HBT
          go_wp2
          go_roundw
          case rel => exact ⟨j + 1, L, some a, kb, true, by omega, by omega, by go_num, rfl, HIB7, HB2, hL8, hx7⟩
          case measure => simp [intOf]; omega
        · obtain ⟨d0, d1, d2, d3, d4, d5⟩ := FX.out w7 hx7
          go_wp2_with fail
          clear d0 d1 d2 d3 d4 d5
          refine (HCT.out w7 hx7).mono ?_
          rintro e w6 ⟨rfl, hb6⟩
          have hx6 := hx7.trans hb6
          by_cases h0 : CN = 0
          · have bz : (CN == 0) = true := by simp [h0]
            have HPT : Hid (PR LL = true) := by unfold Hid; rw [HPR.out, h0]; rfl
            have hne : LL ≠ [] := fun e => by have h := HPT.out; rw [e, HP0.out] at h; cases h
            obtain ⟨a5, ha5⟩ := HA5.out hne
            subst ha5
            have HB2 : Hid (BestS PR n (j + 1) LL (some a5) c5 true) := by
              refine ⟨fun h => (by cases h), fun _ => ⟨?_, a5, rfl⟩⟩
              have h := best_new2 HBT.out (by rw [HLE.out]; exact HFW.out) (by rw [HLE.out]; exact HPT.out)
              rw [HLE.out] at h
              exact h
            have HIN := hid (HIL7.out.ext hb6)
            clear HB HBT h0 hne
            go_wp2
            go_roundw
            case rel => exact ⟨j + 1, LL, some a5, c5, true, by omega, by omega, by go_num, by rw [HLL.out], HIN, HB2, by rw [HLL.out]; omega, hx6⟩
            case measure => simp [intOf]; omega
          · have bz : (CN == 0) = false := by simpa using h0
            have HPT : Hid (PR LL = false) := by unfold Hid; rw [HPR.out]; simpa using h0
            have HB2 : Hid (BestS PR n (j + 1) L (some a) kb true) :=
              ⟨fun h => (by cases h), fun _ => ⟨best_no HBT.out (by rw [HLE.out]; exact HPT.out), a, rfl⟩⟩
            have HIN := hid (HIB7.out.ext hb6)
            clear HB HBT h0
            go_wp2
            go_roundw
            case rel => exact ⟨j + 1, L, some a, kb, true, by omega, by omega, by go_num, rfl, HIN, HB2, hL8, hx6⟩
            case measure => simp [intOf]; omega
    · have hlj' : ¬ (j : Int) ≤ (EV : Int) - 1 := by omega
      have hjE : j = EV := by omega
      have HE : Hid (R = if B then some L else none) := by
        unfold Hid
        rw [← HR.out, HEV.out, ← hjE]
        cases B
        · exact (HB.out.1 rfl).1
        · exact (HB.out.2 rfl).1
      have HE2 : Hid (R.isSome = B ∧ R.getD [] = L) := by
        unfold Hid
        rw [HE.out]
        cases B
        · exact ⟨rfl, (HB.out.1 rfl).2.1.symm⟩
        · exact ⟨rfl, rfl⟩
      cases B
      · obtain ⟨-, hL0, hA0, hk0⟩ := HB.out.1 rfl
        subst hL0
        subst hA0
        subst hk0
        clear HB HE
        go_wp2
        go_ret2
        exact ⟨.slice none 0 0, by rw [HE2.out.1]; rfl, hx0.trans hx2, none, 0, by rw [HE2.out.2]; rfl, by rw [HE2.out.2]; exact OwnI.nil _⟩
      · obtain ⟨-, a, hA0⟩ := HB.out.2 rfl
        subst hA0
        clear HB HE
        go_wp2
        go_ret2
        exact ⟨.slice (some a) L.length kb, by rw [HE2.out.1]; rfl, hx0.trans hx2, some a, kb, by rw [HE2.out.2], by rw [HE2.out.2]; exact HIB2.out⟩
end Go.Proofs.YtpbpcplboikpcaaGreat
