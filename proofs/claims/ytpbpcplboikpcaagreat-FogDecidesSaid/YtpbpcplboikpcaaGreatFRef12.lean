/- The walk of the reference's Decide. Printed by my gen_fref12.py. -/
import Derived.Test.YtpbpcplboikpcaaGreatFRef11
namespace Go.Proofs.YtpbpcplboikpcaaGreat
open Go Go.RowKit Go.Shelf
set_option linter.unusedVariables false
set_option linter.unusedSimpArgs false

def RefDecidePost (w : World) (R : Option (List Int)) (e : Ending) (w' : World) : Prop := ∃ r, e = .returned (.tuple #[r, .bool R.isSome]) ∧ Ext w w' ∧ ∃ A c, r = .slice A (R.getD []).length c ∧ Ints w' A (R.getD [])
set_option maxRecDepth 100000 in
set_option maxHeartbeats 8000000 in
theorem refdecide_any (v : Value) (f : Fg) (A : Option Addr) (ka : Nat) (l : List Int) (n : Int) (w : World) (hf : RgR w v f (distL f)) (hs : f.sized) (hok : FogOK f) (hA : Ints w A l) (hl : ∀ x ∈ l, 0 ≤ x ∧ x < f.pl) (hl8 : l.length ≤ 8) (hn : n ≤ 7) :
    Calls Tryz.prog 41 #[v, .slice A l.length ka, .int .i64 n] w (RefDecidePost w (decideM (farM f) f l n)) := by
  obtain ⟨s, A4, c4, rfl, hr, hd⟩ := hf
  have HS := hid hs
  have HOK := hid hok
  obtain ⟨P, hP⟩ : ∃ P : Nat, f.pl = P := ⟨f.pl.toNat, by have := hok.pl; omega⟩
  have hP8 : P ≤ 8 := by have := hok.pl; omega
  have HP : Hid (f.pl.toNat = P) := by unfold Hid; omega
  have HF : Hid (∀ w', Ext w w' → RgR w' (.agg #[.int .i64 (P : Int), .int .i64 f.mi, .slice s.a1 f.tr.length s.c1, .slice s.a2 f.bl.length s.c2, .slice s.a3 f.ct.length s.c3, .slice A4 (distL f).length c4]) f (distL f)) := fun w' h => ⟨s, A4, c4, by unfold rval; rw [hP], hr.ext h, hd.ext h⟩
  obtain ⟨W0, hW0⟩ : ∃ W0, w.alloc (.cells #[.int .i64 (P : Int), .int .i64 f.mi, .slice s.a1 f.tr.length s.c1, .slice s.a2 f.bl.length s.c2, .slice s.a3 f.ct.length s.c3, .slice A4 (distL f).length c4] 37) = W0 := ⟨_, rfl⟩
  have hx0 : Ext w W0 := by rw [← hW0]; exact Ext.alloc (Ext.refl w) _
  have FX : Hid (∀ w', Ext W0 w' → w'.cell? ⟨w.heap.size, 0, none⟩ = some (.int .i64 (P : Int)) ∧ w'.cell? ⟨w.heap.size, 1, none⟩ = some (.int .i64 f.mi) ∧ w'.cell? ⟨w.heap.size, 2, none⟩ = some (.slice s.a1 f.tr.length s.c1) ∧ w'.cell? ⟨w.heap.size, 3, none⟩ = some (.slice s.a2 f.bl.length s.c2) ∧ w'.cell? ⟨w.heap.size, 4, none⟩ = some (.slice s.a3 f.ct.length s.c3) ∧ w'.cell? ⟨w.heap.size, 5, none⟩ = some (.slice A4 (distL f).length c4)) := fun w' h => ⟨h.cell (by rw [← hW0]; simp [go_sem]), h.cell (by rw [← hW0]; simp [go_sem]), h.cell (by rw [← hW0]; simp [go_sem]), h.cell (by rw [← hW0]; simp [go_sem]), h.cell (by rw [← hW0]; simp [go_sem]), h.cell (by rw [← hW0]; simp [go_sem])⟩
  have HV : Hid (rval s f (.slice A4 (distL f).length c4) = .agg #[.int .i64 (P : Int), .int .i64 f.mi, .slice s.a1 f.tr.length s.c1, .slice s.a2 f.bl.length s.c2, .slice s.a3 f.ct.length s.c3, .slice A4 (distL f).length c4]) := by unfold Hid rval; rw [hP]
  rw [HV.out]
  have HPI : Hid (f.pl = (P : Int)) := hP
  clear hP hok hs HV
  have HI := hid hA
  have HL := hid hl
  have HN7 := hid hn
  obtain ⟨PR, hPR⟩ : ∃ PR, (fun s => (pairsM (farM f) (loudM s n) l).isEmpty) = PR := ⟨_, rfl⟩
  have HPQ : Hid (∀ s, PR s = (pairsM (farM f) (loudM s n) l).isEmpty) := fun s => by rw [← hPR]
  obtain ⟨R, hR⟩ : ∃ R, decideM (farM f) f l n = R := ⟨_, rfl⟩
  have HR : Hid (bestTo PR P (2 ^ P) = R) := by
    unfold Hid
    rw [best_is, ← hR, ← hPR]
    unfold decideM
    rw [HP.out]
  rw [hR]
  clear hl hA hR hPR hn
  go_enter Tryz.func41, Tryz.ntmps41
  go_wp2
  try rw [hW0]
  clear hW0
  go_loopw [9, 8] (fun i9 i8 wr => ∃ m S : Nat, m ≤ P ∧ i9 = .int .i64 (m : Int) ∧ i8 = .int .i64 (S : Int) ∧ Hid (S = 2 ^ m) ∧ S ≤ 256 ∧ W0 = wr) (fun i _ _ => P - (intOf i).toNat)
  case atStart => exact ⟨0, 1, Nat.zero_le _, rfl, rfl, rfl, by omega, rfl⟩
  case round =>
    obtain ⟨m, S, hm, rfl, rfl, HSP, hS, rfl⟩ := hrel
    obtain ⟨d0, d1, d2, d3, d4, d5⟩ := FX.out W0 (Ext.refl _)
    by_cases hlt : m < P
    · have hlt' : (m : Int) < (P : Int) := by omega
      have HS2 : Hid (2 * S = 2 ^ (m + 1)) := by unfold Hid; rw [Nat.pow_succ, HSP.out]; omega
      have hS2 : 2 * S ≤ 256 := by rw [HS2.out]; exact pow_le8 (by omega)
      clear d1 d2 d3 d4 d5
      go_wp2
      go_roundw
      case rel => exact ⟨m + 1, 2 * S, by omega, by go_num, by go_num, HS2, hS2, by first | rfl | trivial⟩
      case measure => simp [intOf]; omega
    · have hlt' : ¬ (m : Int) < (P : Int) := by omega
      obtain rfl : m = P := by omega
      clear hlt
      go_wp2
      clear d0 d1 d2 d3 d4 d5
      go_loopw [12, 10, 11] (fun i12 i10 i11 wr => ∃ (j : Nat) (L : List Int) (Ab : Option Addr) (kb : Nat) (B : Bool), j ≤ S ∧ i12 = .int .i64 (j : Int) ∧ i10 = .slice Ab L.length kb ∧ i11 = .bool B ∧ Hid (Ints wr Ab L) ∧ Hid ((B = false → bestTo PR m j = none ∧ L = []) ∧ (B = true → bestTo PR m j = some L)) ∧ L.length ≤ 8 ∧ Ext W0 wr) (fun i _ _ _ => S - (intOf i).toNat)
      case atStart => exact ⟨0, [], none, 0, false, Nat.zero_le _, rfl, rfl, rfl, Ints.nil _ _, ⟨fun _ => ⟨rfl, rfl⟩, fun h => by cases h⟩, by simp, Ext.refl _⟩
      case round =>
        obtain ⟨j, L, Ab, kb, B, hj, rfl, rfl, rfl, HIB, HB, hL8, hxr⟩ := hrel
        by_cases hlj : j < S
        · have hlj' : (j : Int) < (S : Int) := by omega
          have K := members_any m j wr (by omega) (by rw [← HSP.out]; exact hlj)
          have HK := hid K
          clear K
          go_wp2_with fail
          refine HK.out.mono ?_
          clear HK
          rintro e w5 ⟨A5, c5, rfl, hown, hb5⟩
          have HIL0 := Rd.of_own hown
          obtain ⟨LL, hLL⟩ : ∃ LL, someW (bit j) m = LL := ⟨_, rfl⟩
          have HLE := hid hLL
          have hmem : ∀ x ∈ LL, 0 ≤ x ∧ x < f.pl := fun x hx => by
            rw [← hLL, mem_someW] at hx
            rw [HPI.out]
            omega
          have hlen : LL.length ≤ m := by rw [← hLL]; exact someW_len _ _
          rw [hLL] at HIL0 ⊢
          have HIL : Hid (Ints w5 A5 LL) := HIL0
          obtain ⟨mm, hmm⟩ : ∃ mm, LL.length = mm := ⟨_, rfl⟩
          have HLL := hid hmm
          have HLM : Hid ((loudM LL n).length = mm) := by unfold Hid; rw [loudM_len, hmm]
          have HLC := hid (loud_ch hmem HN7.out)
          have HCH : Hid (∀ w', Ext w5 w' → Calls Tryz.prog 134 #[.slice A5 mm c5, .int .i64 n] w' fun e w2 => ∃ r, e = .returned r ∧ Ext w' w2 ∧ PrsR w2 r (loudM LL n)) := fun w' h => by
            have K := choice_any A5 c5 LL n w' (HIL.out.ext h) (by omega)
            rw [HLL.out] at K
            exact K
          obtain ⟨NP, hNP⟩ : ∃ NP, (pairsM (farM f) (loudM LL n) l).length = NP := ⟨_, rfl⟩
          have HNP := hid hNP
          have HPR : Hid (PR LL = decide (NP = 0)) := by
            unfold Hid
            rw [HPQ.out, ← hNP]
            cases pairsM (farM f) (loudM LL n) l <;> simp
          rw [hmm] at hlen ⊢
          clear hown HIL0 hLL hmem hmm hNP
          go_wp2
          cases B
          · have hbt := HB.out.1 rfl
            by_cases h0 : NP = 0
            · have bz : ((NP : Int) == 0) = true := by simp [h0]
              have HPT : Hid (PR LL = true) := by unfold Hid; rw [HPR.out, h0]; rfl
              clear h0
              have HNX : Hid ((true = false → bestTo PR m (j + 1) = none ∧ LL = []) ∧ (true = true → bestTo PR m (j + 1) = some LL)) := by
                refine ⟨fun h => (by cases h), fun _ => ?_⟩
                have h := best_new hbt.1 (by rw [HLE.out]; exact HPT.out)
                rw [HLE.out] at h
                exact h
              clear hbt HPT
              refine wp_region_shut Ext (fun w' => Ext w5 w') (fun
                  | 12 => some (fun v w' => ∃ Ax cx, v = .slice Ax mm cx ∧ Prs w' Ax (loudM LL n))
                  | 13 => some (fun v w' => ∃ Ay cy, v = .slice Ay NP cy)
                  | _ => none) (by kernel_rfl) (by kernel_rfl) (fun _ _ h k => h.trans k) ?hTba (Ext.drew (Ext.refl w5)) ?_
              case hTba =>
                intro i R hR
                match i, hR with
                  | 12, hR => cases hR; exact fun _ _ _ ⟨Ax, cx, e, h⟩ k => ⟨Ax, cx, e, Rows.ext h k⟩
                  | 13, hR => cases hR; exact fun _ _ _ h _ => h
              refine wM_val ?uba0 rfl rfl Ext.refl (fun w' hD => ?hba0) (fun phba0 => ?nba0)
              case hba0 =>
                obtain ⟨d0, d1, d2, d3, d4, d5⟩ := FX.out w' (hxr.trans (hb5.trans hD.1))
                go_simp; rfl
              simp only [Act.put, List.setIfInBounds_toArray, List.set_cons_succ, List.set_cons_zero, Nat.reduceAdd]
              refine wM_val ?uba1 rfl rfl Ext.refl (fun w' hD => ?hba1) (fun phba1 => ?nba1)
              case hba1 =>
                obtain ⟨d0, d1, d2, d3, d4, d5⟩ := FX.out w' (hxr.trans (hb5.trans hD.1))
                go_simp; rfl
              simp only [Act.put, List.setIfInBounds_toArray, List.set_cons_succ, List.set_cons_zero, Nat.reduceAdd]
              refine wM_val ?uba2 rfl rfl Ext.refl (fun w' hD => ?hba2) (fun phba2 => ?nba2)
              case hba2 =>
                obtain ⟨d0, d1, d2, d3, d4, d5⟩ := FX.out w' (hxr.trans (hb5.trans hD.1))
                go_simp; rfl
              simp only [Act.put, List.setIfInBounds_toArray, List.set_cons_succ, List.set_cons_zero, Nat.reduceAdd]
              refine wM_skip rfl ?_
              simp only [Act.put, List.setIfInBounds_toArray, List.set_cons_succ, List.set_cons_zero, Nat.reduceAdd]
              refine wM_skip rfl ?_
              simp only [Act.put, List.setIfInBounds_toArray, List.set_cons_succ, List.set_cons_zero, Nat.reduceAdd]
              refine wM_skip rfl ?_
              simp only [Act.put, List.setIfInBounds_toArray, List.set_cons_succ, List.set_cons_zero, Nat.reduceAdd]
              refine wM_val ?uba6 rfl rfl Ext.refl (fun w' hD => ?hba6) (fun phba6 => ?nba6)
              case hba6 =>
                obtain ⟨d0, d1, d2, d3, d4, d5⟩ := FX.out w' (hxr.trans (hb5.trans hD.1))
                go_simp; rfl
              simp only [Act.put, List.setIfInBounds_toArray, List.set_cons_succ, List.set_cons_zero, Nat.reduceAdd]
              refine wM_val ?uba7 rfl rfl Ext.refl (fun w' hD => ?hba7) (fun phba7 => ?nba7)
              case hba7 =>
                obtain ⟨d0, d1, d2, d3, d4, d5⟩ := FX.out w' (hxr.trans (hb5.trans hD.1))
                go_simp; rfl
              simp only [Act.put, List.setIfInBounds_toArray, List.set_cons_succ, List.set_cons_zero, Nat.reduceAdd]
              refine wM_val ?uba8 rfl rfl Ext.refl (fun w' hD => ?hba8) (fun phba8 => ?nba8)
              case hba8 =>
                obtain ⟨d0, d1, d2, d3, d4, d5⟩ := FX.out w' (hxr.trans (hb5.trans hD.1))
                go_simp; rfl
              simp only [Act.put, List.setIfInBounds_toArray, List.set_cons_succ, List.set_cons_zero, Nat.reduceAdd]
              refine wM_val ?uba9 rfl rfl Ext.refl (fun w' hD => ?hba9) (fun phba9 => ?nba9)
              case hba9 =>
                obtain ⟨d0, d1, d2, d3, d4, d5⟩ := FX.out w' (hxr.trans (hb5.trans hD.1))
                go_simp; rfl
              simp only [Act.put, List.setIfInBounds_toArray, List.set_cons_succ, List.set_cons_zero, Nat.reduceAdd]
              refine wM_val ?uba10 rfl rfl Ext.refl (fun w' hD => ?hba10) (fun phba10 => ?nba10)
              case hba10 =>
                obtain ⟨d0, d1, d2, d3, d4, d5⟩ := FX.out w' (hxr.trans (hb5.trans hD.1))
                go_simp; rfl
              simp only [Act.put, List.setIfInBounds_toArray, List.set_cons_succ, List.set_cons_zero, Nat.reduceAdd]
              refine wM_val ?uba11 rfl rfl Ext.refl (fun w' hD => ?hba11) (fun phba11 => ?nba11)
              case hba11 =>
                obtain ⟨d0, d1, d2, d3, d4, d5⟩ := FX.out w' (hxr.trans (hb5.trans hD.1))
                go_simp; rfl
              simp only [Act.put, List.setIfInBounds_toArray, List.set_cons_succ, List.set_cons_zero, Nat.reduceAdd]
              refine wM_op _ rfl rfl (opens_call ?fba12 ?gba12 (fun w' hD => ?hba12) (fun w' hD => ?cba12)) (fun v12 hv12 => ?nba12)
              case hba12 => go_simp; constructor <;> rfl
              case cba12 =>
                refine (HCH.out w' hD.1).mono ?_
                rintro e w2 ⟨r, rfl, hb, Ax, cx, rfl, hp⟩
                exact ⟨_, rfl, hb, Ax, cx, by rw [HLM.out], hp⟩
              obtain ⟨_, -, -, A6, k6, rfl, -⟩ := hv12
              simp only [Act.put, List.setIfInBounds_toArray, List.set_cons_succ, List.set_cons_zero, Nat.reduceAdd]
              refine wM_op _ rfl rfl (opens_call ?fba13 ?gba13 (fun w' hD => ?hba13) (fun w' hD => ?cba13)) (fun v13 hv13 => ?nba13)
              case hba13 => go_simp; constructor <;> rfl
              case cba13 =>
                obtain ⟨_, Ax, cx, ex, hpx⟩ := hD.get 12 (by first | kernel_rfl | simp [Region.binds])
                cases ex
                have K := refapart_any _ f A A6 ka k6 l (loudM LL n) w' (HF.out w' (hx0.trans (hxr.trans (hb5.trans hD.1)))) HS.out HOK.out (HI.out.ext (hx0.trans (hxr.trans (hb5.trans hD.1)))) HL.out hl8 hpx (by rw [HLM.out]; omega) HLC.out
                rw [HLM.out] at K
                refine K.mono ?_
                rintro e w2 ⟨r, rfl, hb, Ay, cy, rfl, hp⟩
                exact ⟨_, rfl, hb, Ay, cy, by rw [HNP.out]⟩
              obtain ⟨_, -, -, A7, k7, rfl⟩ := hv13
              simp only [Act.put, List.setIfInBounds_toArray, List.set_cons_succ, List.set_cons_zero, Nat.reduceAdd]
              refine wM_val ?uba14 rfl rfl Ext.refl (fun w' hD => ?hba14) (fun phba14 => ?nba14)
              case hba14 =>
                obtain ⟨d0, d1, d2, d3, d4, d5⟩ := FX.out w' (hxr.trans (hb5.trans hD.1))
                go_simp; rfl
              simp only [Act.put, List.setIfInBounds_toArray, List.set_cons_succ, List.set_cons_zero, Nat.reduceAdd]
              refine wM_val ?uba15 rfl rfl Ext.refl (fun w' hD => ?hba15) (fun phba15 => ?nba15)
              case hba15 =>
                obtain ⟨d0, d1, d2, d3, d4, d5⟩ := FX.out w' (hxr.trans (hb5.trans hD.1))
                go_simp; rfl
              simp only [Act.put, List.setIfInBounds_toArray, List.set_cons_succ, List.set_cons_zero, Nat.reduceAdd]
              refine wM_val ?uba16 rfl rfl Ext.refl (fun w' hD => ?hba16) (fun phba16 => ?nba16)
              case hba16 =>
                obtain ⟨d0, d1, d2, d3, d4, d5⟩ := FX.out w' (hxr.trans (hb5.trans hD.1))
                go_simp; rfl
              simp only [Act.put, List.setIfInBounds_toArray, List.set_cons_succ, List.set_cons_zero, Nat.reduceAdd]
              refine wM_nil ?_
              intro w9 hw9 hF9
              clear hF9
              have hx9 := hxr.trans (hb5.trans hw9)
              have HB2 : Hid ((true = false → bestTo PR m (j + 1) = none ∧ LL = []) ∧ (true = true → bestTo PR m (j + 1) = some LL)) := HNX.out
              have HIB2 := hid (HIL.out.ext hw9)
              clear HB HIB HNX
              go_wp2
              go_roundw
              case rel => exact ⟨j + 1, LL, A5, c5, true, by omega, by go_num, by rw [HLL.out], rfl, HIB2, HB2, by rw [HLL.out]; omega, hx9⟩
              case measure => simp [intOf]; omega
            · have bz : ((NP : Int) == 0) = false := by simp; omega
              have HPT : Hid (PR LL = false) := by unfold Hid; rw [HPR.out]; simpa using h0
              clear h0
              have HNX : Hid ((false = false → bestTo PR m (j + 1) = none ∧ L = []) ∧ (false = true → bestTo PR m (j + 1) = some L)) :=
                ⟨fun _ => ⟨best_no hbt.1 (by rw [HLE.out]; exact HPT.out), hbt.2⟩, fun h => by cases h⟩
              clear hbt HPT
              refine wp_region_shut Ext (fun w' => Ext w5 w') (fun
                  | 12 => some (fun v w' => ∃ Ax cx, v = .slice Ax mm cx ∧ Prs w' Ax (loudM LL n))
                  | 13 => some (fun v w' => ∃ Ay cy, v = .slice Ay NP cy)
                  | _ => none) (by kernel_rfl) (by kernel_rfl) (fun _ _ h k => h.trans k) ?hTbb (Ext.drew (Ext.refl w5)) ?_
              case hTbb =>
                intro i R hR
                match i, hR with
                  | 12, hR => cases hR; exact fun _ _ _ ⟨Ax, cx, e, h⟩ k => ⟨Ax, cx, e, Rows.ext h k⟩
                  | 13, hR => cases hR; exact fun _ _ _ h _ => h
              refine wM_val ?ubb0 rfl rfl Ext.refl (fun w' hD => ?hbb0) (fun phbb0 => ?nbb0)
              case hbb0 =>
                obtain ⟨d0, d1, d2, d3, d4, d5⟩ := FX.out w' (hxr.trans (hb5.trans hD.1))
                go_simp; rfl
              simp only [Act.put, List.setIfInBounds_toArray, List.set_cons_succ, List.set_cons_zero, Nat.reduceAdd]
              refine wM_val ?ubb1 rfl rfl Ext.refl (fun w' hD => ?hbb1) (fun phbb1 => ?nbb1)
              case hbb1 =>
                obtain ⟨d0, d1, d2, d3, d4, d5⟩ := FX.out w' (hxr.trans (hb5.trans hD.1))
                go_simp; rfl
              simp only [Act.put, List.setIfInBounds_toArray, List.set_cons_succ, List.set_cons_zero, Nat.reduceAdd]
              refine wM_val ?ubb2 rfl rfl Ext.refl (fun w' hD => ?hbb2) (fun phbb2 => ?nbb2)
              case hbb2 =>
                obtain ⟨d0, d1, d2, d3, d4, d5⟩ := FX.out w' (hxr.trans (hb5.trans hD.1))
                go_simp; rfl
              simp only [Act.put, List.setIfInBounds_toArray, List.set_cons_succ, List.set_cons_zero, Nat.reduceAdd]
              refine wM_skip rfl ?_
              simp only [Act.put, List.setIfInBounds_toArray, List.set_cons_succ, List.set_cons_zero, Nat.reduceAdd]
              refine wM_skip rfl ?_
              simp only [Act.put, List.setIfInBounds_toArray, List.set_cons_succ, List.set_cons_zero, Nat.reduceAdd]
              refine wM_skip rfl ?_
              simp only [Act.put, List.setIfInBounds_toArray, List.set_cons_succ, List.set_cons_zero, Nat.reduceAdd]
              refine wM_val ?ubb6 rfl rfl Ext.refl (fun w' hD => ?hbb6) (fun phbb6 => ?nbb6)
              case hbb6 =>
                obtain ⟨d0, d1, d2, d3, d4, d5⟩ := FX.out w' (hxr.trans (hb5.trans hD.1))
                go_simp; rfl
              simp only [Act.put, List.setIfInBounds_toArray, List.set_cons_succ, List.set_cons_zero, Nat.reduceAdd]
              refine wM_val ?ubb7 rfl rfl Ext.refl (fun w' hD => ?hbb7) (fun phbb7 => ?nbb7)
              case hbb7 =>
                obtain ⟨d0, d1, d2, d3, d4, d5⟩ := FX.out w' (hxr.trans (hb5.trans hD.1))
                go_simp; rfl
              simp only [Act.put, List.setIfInBounds_toArray, List.set_cons_succ, List.set_cons_zero, Nat.reduceAdd]
              refine wM_val ?ubb8 rfl rfl Ext.refl (fun w' hD => ?hbb8) (fun phbb8 => ?nbb8)
              case hbb8 =>
                obtain ⟨d0, d1, d2, d3, d4, d5⟩ := FX.out w' (hxr.trans (hb5.trans hD.1))
                go_simp; rfl
              simp only [Act.put, List.setIfInBounds_toArray, List.set_cons_succ, List.set_cons_zero, Nat.reduceAdd]
              refine wM_val ?ubb9 rfl rfl Ext.refl (fun w' hD => ?hbb9) (fun phbb9 => ?nbb9)
              case hbb9 =>
                obtain ⟨d0, d1, d2, d3, d4, d5⟩ := FX.out w' (hxr.trans (hb5.trans hD.1))
                go_simp; rfl
              simp only [Act.put, List.setIfInBounds_toArray, List.set_cons_succ, List.set_cons_zero, Nat.reduceAdd]
              refine wM_val ?ubb10 rfl rfl Ext.refl (fun w' hD => ?hbb10) (fun phbb10 => ?nbb10)
              case hbb10 =>
                obtain ⟨d0, d1, d2, d3, d4, d5⟩ := FX.out w' (hxr.trans (hb5.trans hD.1))
                go_simp; rfl
              simp only [Act.put, List.setIfInBounds_toArray, List.set_cons_succ, List.set_cons_zero, Nat.reduceAdd]
              refine wM_val ?ubb11 rfl rfl Ext.refl (fun w' hD => ?hbb11) (fun phbb11 => ?nbb11)
              case hbb11 =>
                obtain ⟨d0, d1, d2, d3, d4, d5⟩ := FX.out w' (hxr.trans (hb5.trans hD.1))
                go_simp; rfl
              simp only [Act.put, List.setIfInBounds_toArray, List.set_cons_succ, List.set_cons_zero, Nat.reduceAdd]
              refine wM_op _ rfl rfl (opens_call ?fbb12 ?gbb12 (fun w' hD => ?hbb12) (fun w' hD => ?cbb12)) (fun v12 hv12 => ?nbb12)
              case hbb12 => go_simp; constructor <;> rfl
              case cbb12 =>
                refine (HCH.out w' hD.1).mono ?_
                rintro e w2 ⟨r, rfl, hb, Ax, cx, rfl, hp⟩
                exact ⟨_, rfl, hb, Ax, cx, by rw [HLM.out], hp⟩
              obtain ⟨_, -, -, A6, k6, rfl, -⟩ := hv12
              simp only [Act.put, List.setIfInBounds_toArray, List.set_cons_succ, List.set_cons_zero, Nat.reduceAdd]
              refine wM_op _ rfl rfl (opens_call ?fbb13 ?gbb13 (fun w' hD => ?hbb13) (fun w' hD => ?cbb13)) (fun v13 hv13 => ?nbb13)
              case hbb13 => go_simp; constructor <;> rfl
              case cbb13 =>
                obtain ⟨_, Ax, cx, ex, hpx⟩ := hD.get 12 (by first | kernel_rfl | simp [Region.binds])
                cases ex
                have K := refapart_any _ f A A6 ka k6 l (loudM LL n) w' (HF.out w' (hx0.trans (hxr.trans (hb5.trans hD.1)))) HS.out HOK.out (HI.out.ext (hx0.trans (hxr.trans (hb5.trans hD.1)))) HL.out hl8 hpx (by rw [HLM.out]; omega) HLC.out
                rw [HLM.out] at K
                refine K.mono ?_
                rintro e w2 ⟨r, rfl, hb, Ay, cy, rfl, hp⟩
                exact ⟨_, rfl, hb, Ay, cy, by rw [HNP.out]⟩
              obtain ⟨_, -, -, A7, k7, rfl⟩ := hv13
              simp only [Act.put, List.setIfInBounds_toArray, List.set_cons_succ, List.set_cons_zero, Nat.reduceAdd]
              refine wM_val ?ubb14 rfl rfl Ext.refl (fun w' hD => ?hbb14) (fun phbb14 => ?nbb14)
              case hbb14 =>
                obtain ⟨d0, d1, d2, d3, d4, d5⟩ := FX.out w' (hxr.trans (hb5.trans hD.1))
                go_simp; rfl
              simp only [Act.put, List.setIfInBounds_toArray, List.set_cons_succ, List.set_cons_zero, Nat.reduceAdd]
              refine wM_val ?ubb15 rfl rfl Ext.refl (fun w' hD => ?hbb15) (fun phbb15 => ?nbb15)
              case hbb15 =>
                obtain ⟨d0, d1, d2, d3, d4, d5⟩ := FX.out w' (hxr.trans (hb5.trans hD.1))
                go_simp; rfl
              simp only [Act.put, List.setIfInBounds_toArray, List.set_cons_succ, List.set_cons_zero, Nat.reduceAdd]
              refine wM_val ?ubb16 rfl rfl Ext.refl (fun w' hD => ?hbb16) (fun phbb16 => ?nbb16)
              case hbb16 =>
                obtain ⟨d0, d1, d2, d3, d4, d5⟩ := FX.out w' (hxr.trans (hb5.trans hD.1))
                go_simp; rfl
              simp only [Act.put, List.setIfInBounds_toArray, List.set_cons_succ, List.set_cons_zero, Nat.reduceAdd]
              refine wM_nil ?_
              intro w9 hw9 hF9
              clear hF9
              have hx9 := hxr.trans (hb5.trans hw9)
              have HB2 : Hid ((false = false → bestTo PR m (j + 1) = none ∧ L = []) ∧ (false = true → bestTo PR m (j + 1) = some L)) := HNX.out
              have HIB2 := hid (HIB.out.ext (hb5.trans hw9))
              clear HB HIB HNX
              go_wp2
              go_roundw
              case rel => exact ⟨j + 1, L, Ab, kb, false, by omega, by go_num, rfl, rfl, HIB2, HB2, hL8, hx9⟩
              case measure => simp [intOf]; omega
          · have hbt := HB.out.2 rfl
            obtain ⟨FW, hFW⟩ : ∃ FW, fewerL LL L = FW := ⟨_, rfl⟩
            have HFW := hid hFW
            cases FW
            · have HNX : Hid ((true = false → bestTo PR m (j + 1) = none ∧ L = []) ∧ (true = true → bestTo PR m (j + 1) = some L)) :=
                ⟨fun h => (by cases h), fun _ => best_no2 hbt (by rw [HLE.out]; exact hFW)⟩
              clear hbt hFW
              refine wp_region_shut Ext (fun w' => Ext w5 w') (fun
                  | 5 => some (fun v _ => v = .bool false)
                  | _ => none) (by kernel_rfl) (by kernel_rfl) (fun _ _ h k => h.trans k) ?hTbc (Ext.drew (Ext.refl w5)) ?_
              case hTbc =>
                intro i R hR
                match i, hR with
                  | 5, hR => cases hR; exact fun _ _ _ h _ => h
              refine wM_val ?ubc0 rfl rfl Ext.refl (fun w' hD => ?hbc0) (fun phbc0 => ?nbc0)
              case hbc0 =>
                obtain ⟨d0, d1, d2, d3, d4, d5⟩ := FX.out w' (hxr.trans (hb5.trans hD.1))
                go_simp; rfl
              simp only [Act.put, List.setIfInBounds_toArray, List.set_cons_succ, List.set_cons_zero, Nat.reduceAdd]
              refine wM_val ?ubc1 rfl rfl Ext.refl (fun w' hD => ?hbc1) (fun phbc1 => ?nbc1)
              case hbc1 =>
                obtain ⟨d0, d1, d2, d3, d4, d5⟩ := FX.out w' (hxr.trans (hb5.trans hD.1))
                go_simp; rfl
              simp only [Act.put, List.setIfInBounds_toArray, List.set_cons_succ, List.set_cons_zero, Nat.reduceAdd]
              refine wM_val ?ubc2 rfl rfl Ext.refl (fun w' hD => ?hbc2) (fun phbc2 => ?nbc2)
              case hbc2 =>
                obtain ⟨d0, d1, d2, d3, d4, d5⟩ := FX.out w' (hxr.trans (hb5.trans hD.1))
                go_simp; rfl
              simp only [Act.put, List.setIfInBounds_toArray, List.set_cons_succ, List.set_cons_zero, Nat.reduceAdd]
              refine wM_val ?ubc3 rfl rfl Ext.refl (fun w' hD => ?hbc3) (fun phbc3 => ?nbc3)
              case hbc3 =>
                obtain ⟨d0, d1, d2, d3, d4, d5⟩ := FX.out w' (hxr.trans (hb5.trans hD.1))
                go_simp; rfl
              simp only [Act.put, List.setIfInBounds_toArray, List.set_cons_succ, List.set_cons_zero, Nat.reduceAdd]
              refine wM_val ?ubc4 rfl rfl Ext.refl (fun w' hD => ?hbc4) (fun phbc4 => ?nbc4)
              case hbc4 =>
                obtain ⟨d0, d1, d2, d3, d4, d5⟩ := FX.out w' (hxr.trans (hb5.trans hD.1))
                go_simp; rfl
              simp only [Act.put, List.setIfInBounds_toArray, List.set_cons_succ, List.set_cons_zero, Nat.reduceAdd]
              refine wM_op _ rfl rfl (opens_call ?fbc5 ?gbc5 (fun w' hD => ?hbc5) (fun w' hD => ?cbc5)) (fun v5 hv5 => ?nbc5)
              case hbc5 => go_simp; constructor <;> rfl
              case cbc5 =>
                have K := refahead_any A5 Ab c5 kb LL L w' (HIL.out.ext hD.1) (HIB.out.ext (hb5.trans hD.1)) (by rw [HLL.out]; omega) (by omega)
                rw [HLL.out] at K
                refine K.mono ?_
                rintro e w2 ⟨rfl, hb⟩
                exact ⟨_, rfl, hb, by rw [HFW.out]⟩
              obtain ⟨_, -, -, rfl⟩ := hv5
              simp only [Act.put, List.setIfInBounds_toArray, List.set_cons_succ, List.set_cons_zero, Nat.reduceAdd]
              refine wM_val ?ubc6 rfl rfl Ext.refl (fun w' hD => ?hbc6) (fun phbc6 => ?nbc6)
              case hbc6 =>
                obtain ⟨d0, d1, d2, d3, d4, d5⟩ := FX.out w' (hxr.trans (hb5.trans hD.1))
                go_simp; rfl
              simp only [Act.put, List.setIfInBounds_toArray, List.set_cons_succ, List.set_cons_zero, Nat.reduceAdd]
              refine wM_val ?ubc7 rfl rfl Ext.refl (fun w' hD => ?hbc7) (fun phbc7 => ?nbc7)
              case hbc7 =>
                obtain ⟨d0, d1, d2, d3, d4, d5⟩ := FX.out w' (hxr.trans (hb5.trans hD.1))
                go_simp; rfl
              simp only [Act.put, List.setIfInBounds_toArray, List.set_cons_succ, List.set_cons_zero, Nat.reduceAdd]
              refine wM_skip rfl ?_
              simp only [Act.put, List.setIfInBounds_toArray, List.set_cons_succ, List.set_cons_zero, Nat.reduceAdd]
              refine wM_skip rfl ?_
              simp only [Act.put, List.setIfInBounds_toArray, List.set_cons_succ, List.set_cons_zero, Nat.reduceAdd]
              refine wM_skip rfl ?_
              simp only [Act.put, List.setIfInBounds_toArray, List.set_cons_succ, List.set_cons_zero, Nat.reduceAdd]
              refine wM_skip rfl ?_
              simp only [Act.put, List.setIfInBounds_toArray, List.set_cons_succ, List.set_cons_zero, Nat.reduceAdd]
              refine wM_skip rfl ?_
              simp only [Act.put, List.setIfInBounds_toArray, List.set_cons_succ, List.set_cons_zero, Nat.reduceAdd]
              refine wM_skip rfl ?_
              simp only [Act.put, List.setIfInBounds_toArray, List.set_cons_succ, List.set_cons_zero, Nat.reduceAdd]
              refine wM_skip rfl ?_
              simp only [Act.put, List.setIfInBounds_toArray, List.set_cons_succ, List.set_cons_zero, Nat.reduceAdd]
              refine wM_skip rfl ?_
              simp only [Act.put, List.setIfInBounds_toArray, List.set_cons_succ, List.set_cons_zero, Nat.reduceAdd]
              refine wM_val ?ubc16 rfl rfl Ext.refl (fun w' hD => ?hbc16) (fun phbc16 => ?nbc16)
              case hbc16 =>
                obtain ⟨d0, d1, d2, d3, d4, d5⟩ := FX.out w' (hxr.trans (hb5.trans hD.1))
                go_simp; rfl
              simp only [Act.put, List.setIfInBounds_toArray, List.set_cons_succ, List.set_cons_zero, Nat.reduceAdd]
              refine wM_nil ?_
              intro w9 hw9 hF9
              clear hF9
              have hx9 := hxr.trans (hb5.trans hw9)
              have HB2 : Hid ((true = false → bestTo PR m (j + 1) = none ∧ L = []) ∧ (true = true → bestTo PR m (j + 1) = some L)) := HNX.out
              have HIB2 := hid (HIB.out.ext (hb5.trans hw9))
              clear HB HIB HNX
              go_wp2
              go_roundw
              case rel => exact ⟨j + 1, L, Ab, kb, true, by omega, by go_num, rfl, rfl, HIB2, HB2, hL8, hx9⟩
              case measure => simp [intOf]; omega
            · have HBT := hid hbt
              clear hbt hFW
              by_cases h0 : NP = 0
              · have bz : ((NP : Int) == 0) = true := by simp [h0]
                have HPT : Hid (PR LL = true) := by unfold Hid; rw [HPR.out, h0]; rfl
                clear h0
                have HNX : Hid ((true = false → bestTo PR m (j + 1) = none ∧ LL = []) ∧ (true = true → bestTo PR m (j + 1) = some LL)) := by
                  refine ⟨fun h => (by cases h), fun _ => ?_⟩
                  have h := best_new2 HBT.out (by rw [HLE.out]; exact HFW.out) (by rw [HLE.out]; exact HPT.out)
                  rw [HLE.out] at h
                  exact h
                clear HPT
                refine wp_region_shut Ext (fun w' => Ext w5 w') (fun
                    | 5 => some (fun v _ => v = .bool true)
                    | 12 => some (fun v w' => ∃ Ax cx, v = .slice Ax mm cx ∧ Prs w' Ax (loudM LL n))
                    | 13 => some (fun v w' => ∃ Ay cy, v = .slice Ay NP cy)
                    | _ => none) (by kernel_rfl) (by kernel_rfl) (fun _ _ h k => h.trans k) ?hTbd (Ext.drew (Ext.refl w5)) ?_
                case hTbd =>
                  intro i R hR
                  match i, hR with
                    | 5, hR => cases hR; exact fun _ _ _ h _ => h
                    | 12, hR => cases hR; exact fun _ _ _ ⟨Ax, cx, e, h⟩ k => ⟨Ax, cx, e, Rows.ext h k⟩
                    | 13, hR => cases hR; exact fun _ _ _ h _ => h
                refine wM_val ?ubd0 rfl rfl Ext.refl (fun w' hD => ?hbd0) (fun phbd0 => ?nbd0)
                case hbd0 =>
                  obtain ⟨d0, d1, d2, d3, d4, d5⟩ := FX.out w' (hxr.trans (hb5.trans hD.1))
                  go_simp; rfl
                simp only [Act.put, List.setIfInBounds_toArray, List.set_cons_succ, List.set_cons_zero, Nat.reduceAdd]
                refine wM_val ?ubd1 rfl rfl Ext.refl (fun w' hD => ?hbd1) (fun phbd1 => ?nbd1)
                case hbd1 =>
                  obtain ⟨d0, d1, d2, d3, d4, d5⟩ := FX.out w' (hxr.trans (hb5.trans hD.1))
                  go_simp; rfl
                simp only [Act.put, List.setIfInBounds_toArray, List.set_cons_succ, List.set_cons_zero, Nat.reduceAdd]
                refine wM_val ?ubd2 rfl rfl Ext.refl (fun w' hD => ?hbd2) (fun phbd2 => ?nbd2)
                case hbd2 =>
                  obtain ⟨d0, d1, d2, d3, d4, d5⟩ := FX.out w' (hxr.trans (hb5.trans hD.1))
                  go_simp; rfl
                simp only [Act.put, List.setIfInBounds_toArray, List.set_cons_succ, List.set_cons_zero, Nat.reduceAdd]
                refine wM_val ?ubd3 rfl rfl Ext.refl (fun w' hD => ?hbd3) (fun phbd3 => ?nbd3)
                case hbd3 =>
                  obtain ⟨d0, d1, d2, d3, d4, d5⟩ := FX.out w' (hxr.trans (hb5.trans hD.1))
                  go_simp; rfl
                simp only [Act.put, List.setIfInBounds_toArray, List.set_cons_succ, List.set_cons_zero, Nat.reduceAdd]
                refine wM_val ?ubd4 rfl rfl Ext.refl (fun w' hD => ?hbd4) (fun phbd4 => ?nbd4)
                case hbd4 =>
                  obtain ⟨d0, d1, d2, d3, d4, d5⟩ := FX.out w' (hxr.trans (hb5.trans hD.1))
                  go_simp; rfl
                simp only [Act.put, List.setIfInBounds_toArray, List.set_cons_succ, List.set_cons_zero, Nat.reduceAdd]
                refine wM_op _ rfl rfl (opens_call ?fbd5 ?gbd5 (fun w' hD => ?hbd5) (fun w' hD => ?cbd5)) (fun v5 hv5 => ?nbd5)
                case hbd5 => go_simp; constructor <;> rfl
                case cbd5 =>
                  have K := refahead_any A5 Ab c5 kb LL L w' (HIL.out.ext hD.1) (HIB.out.ext (hb5.trans hD.1)) (by rw [HLL.out]; omega) (by omega)
                  rw [HLL.out] at K
                  refine K.mono ?_
                  rintro e w2 ⟨rfl, hb⟩
                  exact ⟨_, rfl, hb, by rw [HFW.out]⟩
                obtain ⟨_, -, -, rfl⟩ := hv5
                simp only [Act.put, List.setIfInBounds_toArray, List.set_cons_succ, List.set_cons_zero, Nat.reduceAdd]
                refine wM_val ?ubd6 rfl rfl Ext.refl (fun w' hD => ?hbd6) (fun phbd6 => ?nbd6)
                case hbd6 =>
                  obtain ⟨d0, d1, d2, d3, d4, d5⟩ := FX.out w' (hxr.trans (hb5.trans hD.1))
                  go_simp; rfl
                simp only [Act.put, List.setIfInBounds_toArray, List.set_cons_succ, List.set_cons_zero, Nat.reduceAdd]
                refine wM_val ?ubd7 rfl rfl Ext.refl (fun w' hD => ?hbd7) (fun phbd7 => ?nbd7)
                case hbd7 =>
                  obtain ⟨d0, d1, d2, d3, d4, d5⟩ := FX.out w' (hxr.trans (hb5.trans hD.1))
                  go_simp; rfl
                simp only [Act.put, List.setIfInBounds_toArray, List.set_cons_succ, List.set_cons_zero, Nat.reduceAdd]
                refine wM_val ?ubd8 rfl rfl Ext.refl (fun w' hD => ?hbd8) (fun phbd8 => ?nbd8)
                case hbd8 =>
                  obtain ⟨d0, d1, d2, d3, d4, d5⟩ := FX.out w' (hxr.trans (hb5.trans hD.1))
                  go_simp; rfl
                simp only [Act.put, List.setIfInBounds_toArray, List.set_cons_succ, List.set_cons_zero, Nat.reduceAdd]
                refine wM_val ?ubd9 rfl rfl Ext.refl (fun w' hD => ?hbd9) (fun phbd9 => ?nbd9)
                case hbd9 =>
                  obtain ⟨d0, d1, d2, d3, d4, d5⟩ := FX.out w' (hxr.trans (hb5.trans hD.1))
                  go_simp; rfl
                simp only [Act.put, List.setIfInBounds_toArray, List.set_cons_succ, List.set_cons_zero, Nat.reduceAdd]
                refine wM_val ?ubd10 rfl rfl Ext.refl (fun w' hD => ?hbd10) (fun phbd10 => ?nbd10)
                case hbd10 =>
                  obtain ⟨d0, d1, d2, d3, d4, d5⟩ := FX.out w' (hxr.trans (hb5.trans hD.1))
                  go_simp; rfl
                simp only [Act.put, List.setIfInBounds_toArray, List.set_cons_succ, List.set_cons_zero, Nat.reduceAdd]
                refine wM_val ?ubd11 rfl rfl Ext.refl (fun w' hD => ?hbd11) (fun phbd11 => ?nbd11)
                case hbd11 =>
                  obtain ⟨d0, d1, d2, d3, d4, d5⟩ := FX.out w' (hxr.trans (hb5.trans hD.1))
                  go_simp; rfl
                simp only [Act.put, List.setIfInBounds_toArray, List.set_cons_succ, List.set_cons_zero, Nat.reduceAdd]
                refine wM_op _ rfl rfl (opens_call ?fbd12 ?gbd12 (fun w' hD => ?hbd12) (fun w' hD => ?cbd12)) (fun v12 hv12 => ?nbd12)
                case hbd12 => go_simp; constructor <;> rfl
                case cbd12 =>
                  refine (HCH.out w' hD.1).mono ?_
                  rintro e w2 ⟨r, rfl, hb, Ax, cx, rfl, hp⟩
                  exact ⟨_, rfl, hb, Ax, cx, by rw [HLM.out], hp⟩
                obtain ⟨_, -, -, A6, k6, rfl, -⟩ := hv12
                simp only [Act.put, List.setIfInBounds_toArray, List.set_cons_succ, List.set_cons_zero, Nat.reduceAdd]
                refine wM_op _ rfl rfl (opens_call ?fbd13 ?gbd13 (fun w' hD => ?hbd13) (fun w' hD => ?cbd13)) (fun v13 hv13 => ?nbd13)
                case hbd13 => go_simp; constructor <;> rfl
                case cbd13 =>
                  obtain ⟨_, Ax, cx, ex, hpx⟩ := hD.get 12 (by first | kernel_rfl | simp [Region.binds])
                  cases ex
                  have K := refapart_any _ f A A6 ka k6 l (loudM LL n) w' (HF.out w' (hx0.trans (hxr.trans (hb5.trans hD.1)))) HS.out HOK.out (HI.out.ext (hx0.trans (hxr.trans (hb5.trans hD.1)))) HL.out hl8 hpx (by rw [HLM.out]; omega) HLC.out
                  rw [HLM.out] at K
                  refine K.mono ?_
                  rintro e w2 ⟨r, rfl, hb, Ay, cy, rfl, hp⟩
                  exact ⟨_, rfl, hb, Ay, cy, by rw [HNP.out]⟩
                obtain ⟨_, -, -, A7, k7, rfl⟩ := hv13
                simp only [Act.put, List.setIfInBounds_toArray, List.set_cons_succ, List.set_cons_zero, Nat.reduceAdd]
                refine wM_val ?ubd14 rfl rfl Ext.refl (fun w' hD => ?hbd14) (fun phbd14 => ?nbd14)
                case hbd14 =>
                  obtain ⟨d0, d1, d2, d3, d4, d5⟩ := FX.out w' (hxr.trans (hb5.trans hD.1))
                  go_simp; rfl
                simp only [Act.put, List.setIfInBounds_toArray, List.set_cons_succ, List.set_cons_zero, Nat.reduceAdd]
                refine wM_val ?ubd15 rfl rfl Ext.refl (fun w' hD => ?hbd15) (fun phbd15 => ?nbd15)
                case hbd15 =>
                  obtain ⟨d0, d1, d2, d3, d4, d5⟩ := FX.out w' (hxr.trans (hb5.trans hD.1))
                  go_simp; rfl
                simp only [Act.put, List.setIfInBounds_toArray, List.set_cons_succ, List.set_cons_zero, Nat.reduceAdd]
                refine wM_val ?ubd16 rfl rfl Ext.refl (fun w' hD => ?hbd16) (fun phbd16 => ?nbd16)
                case hbd16 =>
                  obtain ⟨d0, d1, d2, d3, d4, d5⟩ := FX.out w' (hxr.trans (hb5.trans hD.1))
                  go_simp; rfl
                simp only [Act.put, List.setIfInBounds_toArray, List.set_cons_succ, List.set_cons_zero, Nat.reduceAdd]
                refine wM_nil ?_
                intro w9 hw9 hF9
                clear hF9
                have hx9 := hxr.trans (hb5.trans hw9)
                have HB2 : Hid ((true = false → bestTo PR m (j + 1) = none ∧ LL = []) ∧ (true = true → bestTo PR m (j + 1) = some LL)) := HNX.out
                have HIB2 := hid (HIL.out.ext hw9)
                clear HB HIB HNX
                go_wp2
                go_roundw
                case rel => exact ⟨j + 1, LL, A5, c5, true, by omega, by go_num, by rw [HLL.out], rfl, HIB2, HB2, by rw [HLL.out]; omega, hx9⟩
                case measure => simp [intOf]; omega
              · have bz : ((NP : Int) == 0) = false := by simp; omega
                have HPT : Hid (PR LL = false) := by unfold Hid; rw [HPR.out]; simpa using h0
                clear h0
                have HNX : Hid ((true = false → bestTo PR m (j + 1) = none ∧ L = []) ∧ (true = true → bestTo PR m (j + 1) = some L)) :=
                  ⟨fun h => (by cases h), fun _ => best_no HBT.out (by rw [HLE.out]; exact HPT.out)⟩
                clear HPT
                refine wp_region_shut Ext (fun w' => Ext w5 w') (fun
                    | 5 => some (fun v _ => v = .bool true)
                    | 12 => some (fun v w' => ∃ Ax cx, v = .slice Ax mm cx ∧ Prs w' Ax (loudM LL n))
                    | 13 => some (fun v w' => ∃ Ay cy, v = .slice Ay NP cy)
                    | _ => none) (by kernel_rfl) (by kernel_rfl) (fun _ _ h k => h.trans k) ?hTbe (Ext.drew (Ext.refl w5)) ?_
                case hTbe =>
                  intro i R hR
                  match i, hR with
                    | 5, hR => cases hR; exact fun _ _ _ h _ => h
                    | 12, hR => cases hR; exact fun _ _ _ ⟨Ax, cx, e, h⟩ k => ⟨Ax, cx, e, Rows.ext h k⟩
                    | 13, hR => cases hR; exact fun _ _ _ h _ => h
                refine wM_val ?ube0 rfl rfl Ext.refl (fun w' hD => ?hbe0) (fun phbe0 => ?nbe0)
                case hbe0 =>
                  obtain ⟨d0, d1, d2, d3, d4, d5⟩ := FX.out w' (hxr.trans (hb5.trans hD.1))
                  go_simp; rfl
                simp only [Act.put, List.setIfInBounds_toArray, List.set_cons_succ, List.set_cons_zero, Nat.reduceAdd]
                refine wM_val ?ube1 rfl rfl Ext.refl (fun w' hD => ?hbe1) (fun phbe1 => ?nbe1)
                case hbe1 =>
                  obtain ⟨d0, d1, d2, d3, d4, d5⟩ := FX.out w' (hxr.trans (hb5.trans hD.1))
                  go_simp; rfl
                simp only [Act.put, List.setIfInBounds_toArray, List.set_cons_succ, List.set_cons_zero, Nat.reduceAdd]
                refine wM_val ?ube2 rfl rfl Ext.refl (fun w' hD => ?hbe2) (fun phbe2 => ?nbe2)
                case hbe2 =>
                  obtain ⟨d0, d1, d2, d3, d4, d5⟩ := FX.out w' (hxr.trans (hb5.trans hD.1))
                  go_simp; rfl
                simp only [Act.put, List.setIfInBounds_toArray, List.set_cons_succ, List.set_cons_zero, Nat.reduceAdd]
                refine wM_val ?ube3 rfl rfl Ext.refl (fun w' hD => ?hbe3) (fun phbe3 => ?nbe3)
                case hbe3 =>
                  obtain ⟨d0, d1, d2, d3, d4, d5⟩ := FX.out w' (hxr.trans (hb5.trans hD.1))
                  go_simp; rfl
                simp only [Act.put, List.setIfInBounds_toArray, List.set_cons_succ, List.set_cons_zero, Nat.reduceAdd]
                refine wM_val ?ube4 rfl rfl Ext.refl (fun w' hD => ?hbe4) (fun phbe4 => ?nbe4)
                case hbe4 =>
                  obtain ⟨d0, d1, d2, d3, d4, d5⟩ := FX.out w' (hxr.trans (hb5.trans hD.1))
                  go_simp; rfl
                simp only [Act.put, List.setIfInBounds_toArray, List.set_cons_succ, List.set_cons_zero, Nat.reduceAdd]
                refine wM_op _ rfl rfl (opens_call ?fbe5 ?gbe5 (fun w' hD => ?hbe5) (fun w' hD => ?cbe5)) (fun v5 hv5 => ?nbe5)
                case hbe5 => go_simp; constructor <;> rfl
                case cbe5 =>
                  have K := refahead_any A5 Ab c5 kb LL L w' (HIL.out.ext hD.1) (HIB.out.ext (hb5.trans hD.1)) (by rw [HLL.out]; omega) (by omega)
                  rw [HLL.out] at K
                  refine K.mono ?_
                  rintro e w2 ⟨rfl, hb⟩
                  exact ⟨_, rfl, hb, by rw [HFW.out]⟩
                obtain ⟨_, -, -, rfl⟩ := hv5
                simp only [Act.put, List.setIfInBounds_toArray, List.set_cons_succ, List.set_cons_zero, Nat.reduceAdd]
                refine wM_val ?ube6 rfl rfl Ext.refl (fun w' hD => ?hbe6) (fun phbe6 => ?nbe6)
                case hbe6 =>
                  obtain ⟨d0, d1, d2, d3, d4, d5⟩ := FX.out w' (hxr.trans (hb5.trans hD.1))
                  go_simp; rfl
                simp only [Act.put, List.setIfInBounds_toArray, List.set_cons_succ, List.set_cons_zero, Nat.reduceAdd]
                refine wM_val ?ube7 rfl rfl Ext.refl (fun w' hD => ?hbe7) (fun phbe7 => ?nbe7)
                case hbe7 =>
                  obtain ⟨d0, d1, d2, d3, d4, d5⟩ := FX.out w' (hxr.trans (hb5.trans hD.1))
                  go_simp; rfl
                simp only [Act.put, List.setIfInBounds_toArray, List.set_cons_succ, List.set_cons_zero, Nat.reduceAdd]
                refine wM_val ?ube8 rfl rfl Ext.refl (fun w' hD => ?hbe8) (fun phbe8 => ?nbe8)
                case hbe8 =>
                  obtain ⟨d0, d1, d2, d3, d4, d5⟩ := FX.out w' (hxr.trans (hb5.trans hD.1))
                  go_simp; rfl
                simp only [Act.put, List.setIfInBounds_toArray, List.set_cons_succ, List.set_cons_zero, Nat.reduceAdd]
                refine wM_val ?ube9 rfl rfl Ext.refl (fun w' hD => ?hbe9) (fun phbe9 => ?nbe9)
                case hbe9 =>
                  obtain ⟨d0, d1, d2, d3, d4, d5⟩ := FX.out w' (hxr.trans (hb5.trans hD.1))
                  go_simp; rfl
                simp only [Act.put, List.setIfInBounds_toArray, List.set_cons_succ, List.set_cons_zero, Nat.reduceAdd]
                refine wM_val ?ube10 rfl rfl Ext.refl (fun w' hD => ?hbe10) (fun phbe10 => ?nbe10)
                case hbe10 =>
                  obtain ⟨d0, d1, d2, d3, d4, d5⟩ := FX.out w' (hxr.trans (hb5.trans hD.1))
                  go_simp; rfl
                simp only [Act.put, List.setIfInBounds_toArray, List.set_cons_succ, List.set_cons_zero, Nat.reduceAdd]
                refine wM_val ?ube11 rfl rfl Ext.refl (fun w' hD => ?hbe11) (fun phbe11 => ?nbe11)
                case hbe11 =>
                  obtain ⟨d0, d1, d2, d3, d4, d5⟩ := FX.out w' (hxr.trans (hb5.trans hD.1))
                  go_simp; rfl
                simp only [Act.put, List.setIfInBounds_toArray, List.set_cons_succ, List.set_cons_zero, Nat.reduceAdd]
                refine wM_op _ rfl rfl (opens_call ?fbe12 ?gbe12 (fun w' hD => ?hbe12) (fun w' hD => ?cbe12)) (fun v12 hv12 => ?nbe12)
                case hbe12 => go_simp; constructor <;> rfl
                case cbe12 =>
                  refine (HCH.out w' hD.1).mono ?_
                  rintro e w2 ⟨r, rfl, hb, Ax, cx, rfl, hp⟩
                  exact ⟨_, rfl, hb, Ax, cx, by rw [HLM.out], hp⟩
                obtain ⟨_, -, -, A6, k6, rfl, -⟩ := hv12
                simp only [Act.put, List.setIfInBounds_toArray, List.set_cons_succ, List.set_cons_zero, Nat.reduceAdd]
                refine wM_op _ rfl rfl (opens_call ?fbe13 ?gbe13 (fun w' hD => ?hbe13) (fun w' hD => ?cbe13)) (fun v13 hv13 => ?nbe13)
                case hbe13 => go_simp; constructor <;> rfl
                case cbe13 =>
                  obtain ⟨_, Ax, cx, ex, hpx⟩ := hD.get 12 (by first | kernel_rfl | simp [Region.binds])
                  cases ex
                  have K := refapart_any _ f A A6 ka k6 l (loudM LL n) w' (HF.out w' (hx0.trans (hxr.trans (hb5.trans hD.1)))) HS.out HOK.out (HI.out.ext (hx0.trans (hxr.trans (hb5.trans hD.1)))) HL.out hl8 hpx (by rw [HLM.out]; omega) HLC.out
                  rw [HLM.out] at K
                  refine K.mono ?_
                  rintro e w2 ⟨r, rfl, hb, Ay, cy, rfl, hp⟩
                  exact ⟨_, rfl, hb, Ay, cy, by rw [HNP.out]⟩
                obtain ⟨_, -, -, A7, k7, rfl⟩ := hv13
                simp only [Act.put, List.setIfInBounds_toArray, List.set_cons_succ, List.set_cons_zero, Nat.reduceAdd]
                refine wM_val ?ube14 rfl rfl Ext.refl (fun w' hD => ?hbe14) (fun phbe14 => ?nbe14)
                case hbe14 =>
                  obtain ⟨d0, d1, d2, d3, d4, d5⟩ := FX.out w' (hxr.trans (hb5.trans hD.1))
                  go_simp; rfl
                simp only [Act.put, List.setIfInBounds_toArray, List.set_cons_succ, List.set_cons_zero, Nat.reduceAdd]
                refine wM_val ?ube15 rfl rfl Ext.refl (fun w' hD => ?hbe15) (fun phbe15 => ?nbe15)
                case hbe15 =>
                  obtain ⟨d0, d1, d2, d3, d4, d5⟩ := FX.out w' (hxr.trans (hb5.trans hD.1))
                  go_simp; rfl
                simp only [Act.put, List.setIfInBounds_toArray, List.set_cons_succ, List.set_cons_zero, Nat.reduceAdd]
                refine wM_val ?ube16 rfl rfl Ext.refl (fun w' hD => ?hbe16) (fun phbe16 => ?nbe16)
                case hbe16 =>
                  obtain ⟨d0, d1, d2, d3, d4, d5⟩ := FX.out w' (hxr.trans (hb5.trans hD.1))
                  go_simp; rfl
                simp only [Act.put, List.setIfInBounds_toArray, List.set_cons_succ, List.set_cons_zero, Nat.reduceAdd]
                refine wM_nil ?_
                intro w9 hw9 hF9
                clear hF9
                have hx9 := hxr.trans (hb5.trans hw9)
                have HB2 : Hid ((true = false → bestTo PR m (j + 1) = none ∧ L = []) ∧ (true = true → bestTo PR m (j + 1) = some L)) := HNX.out
                have HIB2 := hid (HIB.out.ext (hb5.trans hw9))
                clear HB HIB HNX
                go_wp2
                go_roundw
                case rel => exact ⟨j + 1, L, Ab, kb, true, by omega, by go_num, rfl, rfl, HIB2, HB2, hL8, hx9⟩
                case measure => simp [intOf]; omega
        · have hlj' : ¬ (j : Int) < (S : Int) := by omega
          have hjS : j = S := by omega
          have HE : Hid (R = if B then some L else none) := by
            unfold Hid
            rw [← HR.out, ← HSP.out, ← hjS]
            cases B
            · exact (HB.out.1 rfl).1
            · exact HB.out.2 rfl
          have HE2 : Hid (R.isSome = B ∧ R.getD [] = L) := by
            unfold Hid
            rw [HE.out]
            cases B
            · exact ⟨rfl, (HB.out.1 rfl).2.symm⟩
            · exact ⟨rfl, rfl⟩
          clear HB HE
          go_wp2
          go_ret2
          exact ⟨.slice Ab L.length kb, by rw [HE2.out.1]; rfl, hx0.trans hxr, Ab, kb, by rw [HE2.out.2], by rw [HE2.out.2]; exact HIB.out⟩
end Go.Proofs.YtpbpcplboikpcaaGreat
