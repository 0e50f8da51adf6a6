/- The walk of FogLouder. Printed by my gen_flou.py. -/
import Derived.Test.YtlonpgbapiemcaaFGSt
import Derived.Test.YtlonpgbapiemcaaFMade
import Derived.Test.YtlonpgbapiemcaaG5
import Derived.Deep.DeepCutAuto
import Derived.Deep.CutBlock
import Derived.Test.YtlonpgbapiemcaaFLouS
import Derived.Deep.OwnRows
import Derived.Deep.RegionHeld3
import Derived.Deep.QuietTactic
import Derived.BigQuiet
namespace Go.Proofs.Ytlonpgbapiemcaa
open Go Go.RowKit Go.Shelf
set_option linter.unusedVariables false
set_option linter.unusedSimpArgs false

theorem llou1_fn (w : World) (Bx : Nat) (A : Option Addr) (k : Nat) (l : List Int) (hl : l.length ≤ 9223372036854775807) (hc : w.cell? ⟨Bx, 0, none⟩ = some (.slice A l.length k)) (hI : Ints w A l) :
    FnP Try.prog (.func (.func 11) #[] #[.pointer (some ⟨Bx, 0, none⟩)]) w IntR anyx (fun x => !memI x l) := by
  refine ⟨_, _, _, rfl, enters_of Try.func11 (by kernel_rfl) rfl, fun x v W hs hW hR => ?_⟩
  obtain rfl : v = .int .i64 x := hR
  have h2 := hW.cell hc
  have hK := hid (containsI_any x A k l W (hI.kc hW) hl)
  clear hI hW hs hc
  show Calls _ _ #[_, _] _ _
  go_enter Try.func11, Try.ntmps11
  go_wp2_with fail
  refine hK.out.mono ?_
  rintro e w1 ⟨rfl, rfl⟩
  go_wp2
  go_ret
  exact ⟨rfl, Ext.refl _⟩
set_option maxRecDepth 100000 in
set_option maxHeartbeats 16000000 in
theorem louw_any (A : Option Addr) (l : List Int) (cap : Nat) (tu : Int) (w : World) (hA : Bytes w A l) (hl : ∀ x ∈ l, 0 ≤ x ∧ x ≤ 255) (hlt : ∀ a, A = some a → l = [] ∨ a.block < w.heap.size) (hn : l.length ≤ 9223372036854775807) (htu : 0 ≤ tu ∧ tu ≤ 255) :
    Calls Try.prog 3 #[.slice A l.length cap, .int .u8 tu] w fun e w' => e = .returned (.bool true) ∧ Ext w w' := by
  have K1 := hid (pile_any A l cap w hA hl hlt hn)
  clear hA hl hlt hn
  go_enter Try.func3, Try.ntmps3
  go_wp2_with fail
  refine K1.out.mono ?_
  clear K1
  rintro e w1 ⟨D, rfl, hD, hx1, hh1⟩
  have hDw := hh1.lt
  go_wp2_with fail
  refine (made_any D 8 3 1 w1 hh1 (by decide) (by decide) (by decide) (by decide) (by decide)).mono ?_
  rintro e w2 ⟨v, f, rfl, hMF, hLO, ⟨B, hB, hg⟩, hb2, hh2⟩
  have hx2 : Ext w w2 := hx1.then_bel hD hb2
  obtain ⟨s, xs, rfl, G0⟩ := GSt.start hg hh2 hx2 (by omega) hD
  obtain ⟨w3, hw3⟩ : ∃ w3, w2.alloc (.cells (mcells f s) 29) = w3 := ⟨_, rfl⟩
  obtain ⟨F, hF⟩ : ∃ F, w2.heap.size = F := ⟨_, rfl⟩
  rw [hw3, hF] at G0
  have HMF := hid hMF
  have HLO := hid hLO
  have HW3 := hid hw3
  have HF := hid hF
  unfold mcells at HW3
  clear hg hMF hLO hw3 hF hb2 hh2 hx1 hx2 hh1
  have G0c := G0.cells
  obtain ⟨c0, c1, c2, c3, c4⟩ := G0c
  unfold Ads.val fval
  go_upto_region 2 with fail
  rw [HW3.out, HF.out]
  clear HW3 HF
  have HOK := hid HMF.out.ok
  have HCK := hid HMF.out.check
  have HSZ := hid (ok_sized HOK.out)
  have HEX := hid G0.ext
  have hFlt := G0.lt
  have hpl : 1 ≤ f.pl ∧ f.pl ≤ 8 := HOK.out.pl
  obtain ⟨N, hN⟩ : ∃ N, f.pl.toNat = N := ⟨_, rfl⟩
  have hNI : ((N : Nat) : Int) = f.pl := by omega
  have hN8 : N ≤ 8 := by omega
  have FX3 : Hid (∀ w', Ext w3 w' → w'.cell? ⟨F, 0, none⟩ = some (.int .i64 f.pl) ∧ w'.cell? ⟨F, 1, none⟩ = some (.int .i64 f.mi) ∧ w'.cell? ⟨F, 2, none⟩ = some (.slice s.a1 f.tr.length s.c1) ∧ w'.cell? ⟨F, 3, none⟩ = some (.slice s.a2 f.bl.length s.c2) ∧ w'.cell? ⟨F, 4, none⟩ = some (.slice s.a3 f.ct.length s.c3)) := fun w' h => (G0.out h).cells
  have HGV : Hid (∀ w', Ext w3 w' → FgR w' (.agg #[.int .i64 f.pl, .int .i64 f.mi, .slice s.a1 f.tr.length s.c1, .slice s.a2 f.bl.length s.c2, .slice s.a3 f.ct.length s.c3]) f) := fun w' h => (G0.out h).fg
  have hmk : ∀ w, (Instr.makeSlice 33 (.int .i64 f.pl) (.int .i64 f.pl)).run Try.prog w = .ok (.slice (some ⟨w.heap.size, 0, none⟩) N N) (w.alloc (.cells (madeCells #[.slice none 0 0] N) 38)) := fun w => by
    have h := run_make_row' (P := Try.prog) 33 38 (.slice none 0 0) 24 Try.underlying33 infoSlice2 rfl .i64 .i64 N (by omega) (by omega) w
    rw [hNI] at h
    exact h
  obtain ⟨Bf, hBf⟩ : ∃ Bf, w3.heap.size = Bf := ⟨_, rfl⟩
  obtain ⟨w4, hw4⟩ : ∃ w4, w3.alloc (.cells (madeCells #[.slice none 0 0] N) 38) = w4 := ⟨_, rfl⟩
  have hx4 : Ext w3 w4 := by rw [← hw4]; exact Ext.alloc (Ext.refl _) _
  have HS0 : Hid (∃ vs, FarSt w4 Bf (Bf + 1) N (louR f N) 0 vs) := by unfold Hid; rw [← hw4, ← hBf]; exact ⟨_, FarSt.start _ _ _ _⟩
  have hBf3 : w3.heap.size ≤ Bf := by omega
  have HNI := hid hNI
  have HNN := hid hN
  have HW4 := hid hw4
  have HBF := hid hBf
  clear hNI hN hw4 hBf
  go_upto_region 3 with fail
  rw [HW4.out, HBF.out]
  clear HW4 HBF hmk
  clear c0 c1 c2 c3 c4
  obtain ⟨c0, c1, c2, c3, c4⟩ := FX3.out w4 hx4
  go_wp2
  go_loopw [30] (fun i30 wr => ∃ j : Nat, j ≤ N ∧ i30 = .int .i64 (j : Int) ∧ Ext w3 wr ∧ ∃ vs, FarSt wr Bf (Bf + 1) N (louR f N) j vs) (fun i _ => N - (intOf i).toNat)
  case atStart => exact ⟨0, Nat.zero_le _, rfl, hx4, HS0.out⟩
  case round =>
    obtain ⟨j, hj, rfl, hxr, vs, hst⟩ := hrel
    clear HS0 hx4
    by_cases hjN : j < N
    · have hjNI : (j : Int) < f.pl := by have := HNI.out; omega
      have hj1 : j + 1 ≤ N := hjN
      have hjp : j < f.pl.toNat := by have := HNN.out; omega
      obtain ⟨wA, hwA⟩ : ∃ wA : World, wA = wr := ⟨_, rfl⟩
      subst hwA
      have hvl : j < vs.length := by have := hst.2.1; omega
      have HST := hid hst
      have HBG := hid (hst.begin hjN)
      have hBlt : Bf < wA.heap.size := (Array.getElem?_eq_some_iff.1 hst.1).1
      clear hst
      obtain ⟨c0, c1, c2, c3, c4⟩ := FX3.out wA hxr
      go_wp2
      go_loopw [36] (fun i36 wr => ∃ b : Nat, b ≤ N ∧ i36 = .int .i64 (b : Int) ∧ Ext w3 wr ∧ FarIn wA wr Bf j vs (louR f b j)) (fun i _ => N - (intOf i).toNat)
      case atStart => exact ⟨0, Nat.zero_le _, rfl, hxr, HBG.out⟩
      case round =>
        obtain ⟨b, hb, rfl, hxi, hin⟩ := hrel
        by_cases hbN : b < N
        · have hbNI : (b : Int) < f.pl := by have := HNI.out; omega
          have hb1 : b + 1 ≤ N := hbN
          have hbp : b < f.pl.toNat := by have := HNN.out; omega
          have K9 := farx_any _ f (j : Int) (b : Int) wr (HGV.out wr hxi) HSZ.out
          have hfr := lou_far HOK.out HCK.out hjp hbp
          have hz := lou_zero (a := j) (b := b) HOK.out (by omega) (by omega)
          have ho := lou_one (a := j) (b := b) HOK.out (by omega) (by omega)
          have hlo := lou_lo (a := j) (b := b) HOK.out (by omega) (by omega)
          have hnext := louR_succ f b j
          have hlen := louR_len f b j
          obtain ⟨LV, hLV⟩ : ∃ LV, louV f j b = LV := ⟨_, rfl⟩
          obtain ⟨EV, hEV⟩ : ∃ EV, farE f (j : Int) (b : Int) = EV := ⟨_, rfl⟩
          obtain ⟨VV, hVV⟩ : ∃ VV, farV f (j : Int) (b : Int) = VV := ⟨_, rfl⟩
          obtain ⟨BS, hBS⟩ : ∃ BS, besideL f.tr (j : Int) (b : Int) = BS := ⟨_, rfl⟩
          rw [hLV] at hfr hz ho hlo hnext
          rw [hEV] at K9 hfr
          rw [hVV] at K9 hfr
          rw [hBS] at ho
          have KB : Hid (∀ w', Ext w3 w' → Calls Try.prog 7 #[.agg #[.int .i64 f.pl, .int .i64 f.mi, .slice s.a1 f.tr.length s.c1, .slice s.a2 f.bl.length s.c2, .slice s.a3 f.ct.length s.c3], .int .i64 (j : Int), .int .i64 (b : Int)] w' fun e w2 => e = .returned (.bool BS) ∧ Ext w' w2) := fun w' h => by
            have K := lbeside_any _ f (j : Int) (b : Int) w' (HGV.out w' h) (by have := HOK.out.tn; omega)
            rw [hBS] at K
            exact K
          have H3 : Hid ((LV = 0 ∧ j = b ∧ BS = false) ∨ (LV = 1 ∧ j ≠ b ∧ BS = true) ∨ (2 ≤ LV ∧ j ≠ b ∧ BS = false)) := by
            unfold Hid
            by_cases e : j = b
            · have e0 : LV = 0 := by
                have : (j == b) = true := by simpa using e
                rw [this] at hz; simpa using hz
              refine .inl ⟨e0, e, ?_⟩
              rw [e0] at ho; exact ho.symm
            · have e0 : LV ≠ 0 := by
                have : (j == b) = false := by simpa using e
                rw [this] at hz; simpa using hz
              by_cases e1 : LV = 1
              · exact .inr (.inl ⟨e1, e, by rw [e1] at ho; exact ho.symm⟩)
              · refine .inr (.inr ⟨by omega, e, ?_⟩)
                rw [← ho]; simpa using e1
          have HFR := hid hfr
          have HK9 := hid K9
          have HNX := hid hnext
          have HLN := hid hlen
          have HIN := hid hin
          clear hfr hz ho hlo hnext hlen hLV hEV hVV hBS K9 hin
          obtain ⟨c0, c1, c2, c3, c4⟩ := FX3.out wr hxi
          go_wp2_with fail
          clear c0 c1 c2 c3 c4
          refine HK9.out.mono ?_
          clear HK9
          rintro e w5 ⟨rfl, h5⟩
          have h35 := hxi.trans h5
          go_upto_if 47 with fail
          go_cut [9, 10] (fun s9 s10 wx => s9 = .int .i64 LV ∧ s10 = .int .i64 0 ∧ w5 = wx)
          case first =>
            rcases HFR.out with ⟨e1, e2⟩ | ⟨e1, e2⟩
            · subst e1
              subst e2
              go_wp2_with fail
              go_meet
              exact ⟨rfl, rfl, (by first | rfl | trivial)⟩
            · subst e1
              subst e2
              go_wp2_with fail
              go_meet
              exact ⟨rfl, rfl, (by first | rfl | trivial)⟩
          case rest =>
            obtain ⟨rfl, rfl, hcw⟩ := hcut
            subst hcw
            clear HFR
            go_upto_region 12 with fail
            go_cut [70] (fun s70 wx => s70 = .bool false ∧ Ext w5 wx)
            case first =>
              obtain ⟨c0, c1, c2, c3, c4⟩ := FX3.out w5 h35
              rcases H3.out with ⟨rfl, e2, rfl⟩ | ⟨rfl, e2, rfl⟩ | ⟨e1, e2, rfl⟩
              · subst e2
                go_wp2_with fail
                clear c0 c1 c2 c3 c4
                refine (KB.out w5 h35).mono ?_
                rintro e w6 ⟨rfl, h6⟩
                go_wp2_with fail
                go_meet
                exact ⟨rfl, h6⟩
              · have e3 : ((j : Int) == (b : Int)) = false := by simp; omega
                have e4 : ¬ (j : Int) = (b : Int) := by omega
                go_wp2_with fail
                clear c0 c1 c2 c3 c4
                refine (KB.out w5 h35).mono ?_
                rintro e w6 ⟨rfl, h6⟩
                go_wp2_with fail
                go_meet
                exact ⟨rfl, h6⟩
              · have e3 : ((j : Int) == (b : Int)) = false := by simp; omega
                have e4 : ¬ (j : Int) = (b : Int) := by omega
                have e5 : ¬ LV < 0 := by omega
                have e6 : (LV == 0) = false := by simp; omega
                have e7 : (LV == 1) = false := by simp; omega
                have e8 : ¬ LV = 0 := by omega
                have e9 : ¬ LV = 1 := by omega
                go_wp2_with fail
                clear c0 c1 c2 c3 c4
                refine (KB.out w5 h35).mono ?_
                rintro e w6 ⟨rfl, h6⟩
                go_wp2_with fail
                go_meet
                exact ⟨rfl, h6⟩
            case rest =>
              obtain ⟨rfl, h6⟩ := hcut
              obtain ⟨w6, hw6⟩ : ∃ w6 : World, w6 = wc := ⟨_, rfl⟩
              subst hw6
              have h36 := h35.trans h6
              have hin6 := HIN.out.ext (h5.trans h6)
              obtain ⟨A, k, q1, q2, q3, q4, q5⟩ := hin6.out hvl
              rw [HLN.out] at q1 q3 q4
              obtain ⟨W5, hW5⟩ : ∃ W5, w6.alloc (.cells #[.int .i64 LV] 3) = W5 := ⟨_, rfl⟩
              have hx5 : Ext w6 W5 := by rw [← hW5]; exact Ext.alloc (Ext.refl _) _
              have HRD : Hid (Rd W5 (some ⟨w6.heap.size, 0, none⟩) [.int .i64 LV]) := .inr ⟨w6.heap.size, 0, rfl, fun j u hu => by
                match j, hu with
                | 0, hu => cases hu; rw [← hW5]; simp [go_sem]
                | j + 1, hu => simp at hu⟩
              have hsz : wA.heap.size ≤ W5.heap.size := by have := q5.size; have := hx5.size; omega
              have hbI : (j : Int) < (N : Int) := by omega
              have HOW := hid (own_below q3 hx5)
              have HQ4 := hid q4
              have HQ3 := hid q3
              have HQ5 := hid q5
              have hnb : (b + 1) * 8 ≤ 140737488355328 := by omega
              clear q2 q3 q4 q5 hin6 h6 h5 HIN H3 KB
              go_wp2_with (at_builtin; (try rw [hW5]); refine wpList_append_rd2 _ rfl _ _ 38 rfl elem_int wA.heap.size _ b ((louR f b j).map (.int .i64)) rfl HOW.out (some ⟨w6.heap.size, 0, none⟩) 1 1 [.int .i64 LV] rfl rfl HRD.out (by intro u hu; simp at hu; subst hu; rfl) hnb hsz ?_)
              intro A6 k6 W6 own6 hbel6 hgr6 hloc6
              obtain ⟨p1, ⟨v7, p2⟩, p3⟩ := FarIn.put (l := louR f b j) (x := LV) (n := b + 1) (by rw [HLN.out]; exact HQ4.out) (by rw [HLN.out]; exact HQ3.out) HQ5.out hBlt hx5 (by rw [HLN.out]; exact hgr6) (by rw [HLN.out]) own6
              have p2 : W6.cell? ⟨Bf, j, none⟩ = some v7 := p2.resolve_right (by omega)
              have hx7 : Ext w3 (W6.setCell ⟨Bf, j, none⟩ (.slice A6 (b + 1) k6)) := Ext.setCell ((h36.trans hx5).grown hgr6 (fun g e => by have := (HOW.out.lt g e).1; have := hxr.size; omega)) hBf3 _
              rw [← HNX.out] at p1
              obtain ⟨w8, hw8⟩ : ∃ w8, W6.setCell ⟨Bf, j, none⟩ (.slice A6 (b + 1) k6) = w8 := ⟨_, rfl⟩
              rw [hw8] at p1 hx7
              have HP1 := hid p1
              have HW8 := hid hw8
              clear own6 hbel6 hgr6 hloc6 HOW HQ3 HQ4 HQ5 HRD p1 hw8 q1 hx5 hW5 hsz
              go_upto_region 15 with fail
              try rw [HW8.out]
              clear HW8 p2 p3
              go_wp2
              go_roundw
              case rel => exact ⟨b + 1, hb1, by go_num, hx7, HP1.out⟩
              case measure => simp [intOf]; omega
        · obtain rfl : N = b := by omega
          have hbNI : ¬ (N : Int) < f.pl := by have := HNI.out; omega
          have hdn := FarIn.done HST.out hin hjN (by omega) (by omega)
          have HDN := hid hdn
          clear hdn hin
          go_wp2
          go_roundw
          case rel => exact ⟨j + 1, hj1, by go_num, hxi, HDN.out⟩
          case measure => simp [intOf]; omega
    · obtain rfl : N = j := by omega
      have hjNI : ¬ (N : Int) < f.pl := by have := HNI.out; omega
      obtain ⟨w9, hw9⟩ : ∃ w9 : World, w9 = wr := ⟨_, rfl⟩
      subst hw9
      have HST := hid hst
      clear hst
      go_wp2
      go_loopw [85] (fun i85 wr => ∃ a : Nat, a ≤ N ∧ i85 = .int .i64 (a : Int) ∧ Ext w9 wr) (fun i _ => N - (intOf i).toNat)
      case atStart => exact ⟨0, Nat.zero_le _, rfl, Ext.refl _⟩
      case round =>
        obtain ⟨a, ha, rfl, hxa⟩ := hrel
        by_cases haN : a < N
        · have haNI : (a : Int) < (N : Int) := by omega
          have ha1 : a + 1 ≤ N := haN
          obtain ⟨Aa, ka, va, ra, -⟩ := HST.out.at_ haN haN
          rw [louR_len] at va
          have Ra : Hid (∀ b, b < N → ∃ x y, Aa = some ⟨x, y, none⟩ ∧ ∀ w', Ext w9 w' → w'.cell? ⟨x, y + b, none⟩ = some (.int .i64 (louV f a b))) := fun b hb => by
            obtain ⟨x, y, e1, e2⟩ := Ints.at_ ra (louR_get f hb)
            exact ⟨x, y, e1, fun w' h => h.cell e2⟩
          have VA : Hid (∀ w', Ext w9 w' → w'.cell? ⟨Bf, a, none⟩ = some (.slice Aa N ka)) := fun w' h => h.cell va
          obtain ⟨xa, ya, eA, -⟩ := Ra.out 0 (by omega)
          subst eA
          have Ra2 : Hid (∀ b, b < N → ∀ w', Ext w9 w' → w'.cell? ⟨xa, ya + b, none⟩ = some (.int .i64 (louV f a b))) := fun b hb => by
            obtain ⟨x, y, e1, e2⟩ := Ra.out b hb
            cases e1
            exact e2
          clear va ra Ra
          go_wp2
          go_loopw [90] (fun i90 wr => ∃ b : Nat, b ≤ N ∧ i90 = .int .i64 (b : Int) ∧ Ext w9 wr) (fun i _ => N - (intOf i).toNat)
          case atStart => exact ⟨0, Nat.zero_le _, rfl, hxa⟩
          case round =>
            obtain ⟨b, hb, rfl, hxb⟩ := hrel
            by_cases hbN : b < N
            · have hbNI : (b : Int) < (N : Int) := by omega
              have hb1 : b + 1 ≤ N := hbN
              obtain ⟨Ab, kb, vb, rb, -⟩ := HST.out.at_ hbN hbN
              rw [louR_len] at vb
              have Rb : Hid (∀ c, c < N → ∃ x y, Ab = some ⟨x, y, none⟩ ∧ ∀ w', Ext w9 w' → w'.cell? ⟨x, y + c, none⟩ = some (.int .i64 (louV f b c))) := fun c hc => by
                obtain ⟨x, y, e1, e2⟩ := Ints.at_ rb (louR_get f hc)
                exact ⟨x, y, e1, fun w' h => h.cell e2⟩
              have VB : Hid (∀ w', Ext w9 w' → w'.cell? ⟨Bf, b, none⟩ = some (.slice Ab N kb)) := fun w' h => h.cell vb
              obtain ⟨xb, yb, eB, -⟩ := Rb.out 0 (by omega)
              subst eB
              have Rb2 : Hid (∀ c, c < N → ∀ w', Ext w9 w' → w'.cell? ⟨xb, yb + c, none⟩ = some (.int .i64 (louV f b c))) := fun c hc => by
                obtain ⟨x, y, e1, e2⟩ := Rb.out c hc
                cases e1
                exact e2
              clear vb rb Rb
              go_wp2
              go_loopw [95] (fun i95 wr => ∃ c : Nat, c ≤ N ∧ i95 = .int .i64 (c : Int) ∧ Ext w9 wr) (fun i _ => N - (intOf i).toNat)
              case atStart => exact ⟨0, Nat.zero_le _, rfl, hxb⟩
              case round =>
                obtain ⟨c, hc, rfl, hxc⟩ := hrel
                by_cases hcN : c < N
                · have hcNI : (c : Int) < (N : Int) := by omega
                  have hc1 : c + 1 ≤ N := hcN
                  have hap : a < f.pl.toNat := by have := HNN.out; omega
                  have hbp : b < f.pl.toNat := by have := HNN.out; omega
                  have hcp : c < f.pl.toNat := by have := HNN.out; omega
                  have l1 := lou_lo (a := a) (b := b) HOK.out (by omega) (by omega)
                  have l2 := lou_lo (a := b) (b := c) HOK.out (by omega) (by omega)
                  have l3 := lou_lo (a := a) (b := c) HOK.out (by omega) (by omega)
                  have tri := lou_tri HOK.out hap hbp hcp
                  have sym := lou_symm (a := a) (b := b) HOK.out (by omega) (by omega)
                  have v0 := Ra2.out b hbN wr hxc
                  have v1 := Rb2.out a haN wr hxc
                  have v2 := Rb2.out c hcN wr hxc
                  have v3 := Ra2.out c hcN wr hxc
                  have v4 := VA.out wr hxc
                  have v5 := VB.out wr hxc
                  rw [← sym] at v1
                  obtain ⟨x, hx⟩ : ∃ x, louV f a b = x := ⟨_, rfl⟩
                  obtain ⟨y, hy⟩ : ∃ y, louV f b c = y := ⟨_, rfl⟩
                  obtain ⟨z, hz⟩ : ∃ z, louV f a c = z := ⟨_, rfl⟩
                  rw [hx] at v0 v1 l1 tri
                  rw [hy] at v2 l2 tri
                  rw [hz] at v3 l3 tri
                  have bxx : (x != x) = false := by simp
                  have wxy : IntKind.i64.wrap (x + y) = x + y := IntWalk.i64_in _ ⟨by omega, by omega⟩
                  have hNN : (N : Int) ≤ 8 := by omega
                  have TRI := hid tri
                  have FS : Hid (∀ w', Ext wr w' → w'.cell? ⟨xa, ya + b, none⟩ = some (.int .i64 x) ∧ w'.cell? ⟨xb, yb + a, none⟩ = some (.int .i64 x) ∧ w'.cell? ⟨xb, yb + c, none⟩ = some (.int .i64 y) ∧ w'.cell? ⟨xa, ya + c, none⟩ = some (.int .i64 z) ∧ w'.cell? ⟨Bf, a, none⟩ = some (.slice (some ⟨xa, ya, none⟩) N ka) ∧ w'.cell? ⟨Bf, b, none⟩ = some (.slice (some ⟨xb, yb, none⟩) N kb)) := fun w' h => ⟨h.cell v0, h.cell v1, h.cell v2, h.cell v3, h.cell v4, h.cell v5⟩
                  clear hx hy hz tri sym v0 v1 v2 v3 v4 v5
                  go_wp2
                  go_upto_region 26 with fail
                  go_cut [157] (fun s157 wx => s157 = .bool false ∧ Ext wr wx)
                  case first =>
                    by_cases hx1 : x < 1000
                    · by_cases hy1 : y < 1000
                      · have hzxy : ¬ x + y < z := by have := TRI.out hx1 hy1; omega
                        clear TRI
                        refine wp_region_shut Ext (fun w' => Ext wr w') (fun
                          | _ => none) (by kernel_rfl) (by kernel_rfl) (fun _ _ h k => h.trans k) ?hTra (Ext.drew (Ext.refl wr)) ?_
                        case hTra =>
                          intro i R hR
                          cases hR
                        refine wM_val ?ura0 rfl rfl Ext.refl (fun w' hD => ?hra0) (fun phra0 => ?nra0)
                        case hra0 =>
                          obtain ⟨d0, d1, d2, d3, d4, d5⟩ := FS.out w' hD.1
                          go_simp; rfl
                        simp only [Act.put, List.setIfInBounds_toArray, List.set_cons_succ, List.set_cons_zero, Nat.reduceAdd]
                        refine wM_val ?ura1 rfl rfl Ext.refl (fun w' hD => ?hra1) (fun phra1 => ?nra1)
                        case hra1 =>
                          obtain ⟨d0, d1, d2, d3, d4, d5⟩ := FS.out w' hD.1
                          go_simp; rfl
                        simp only [Act.put, List.setIfInBounds_toArray, List.set_cons_succ, List.set_cons_zero, Nat.reduceAdd]
                        refine wM_val ?ura2 rfl rfl Ext.refl (fun w' hD => ?hra2) (fun phra2 => ?nra2)
                        case hra2 =>
                          obtain ⟨d0, d1, d2, d3, d4, d5⟩ := FS.out w' hD.1
                          go_simp; rfl
                        simp only [Act.put, List.setIfInBounds_toArray, List.set_cons_succ, List.set_cons_zero, Nat.reduceAdd]
                        refine wM_val ?ura3 rfl rfl Ext.refl (fun w' hD => ?hra3) (fun phra3 => ?nra3)
                        case hra3 =>
                          obtain ⟨d0, d1, d2, d3, d4, d5⟩ := FS.out w' hD.1
                          go_simp; rfl
                        simp only [Act.put, List.setIfInBounds_toArray, List.set_cons_succ, List.set_cons_zero, Nat.reduceAdd]
                        refine wM_val ?ura4 rfl rfl Ext.refl (fun w' hD => ?hra4) (fun phra4 => ?nra4)
                        case hra4 =>
                          obtain ⟨d0, d1, d2, d3, d4, d5⟩ := FS.out w' hD.1
                          go_simp; rfl
                        simp only [Act.put, List.setIfInBounds_toArray, List.set_cons_succ, List.set_cons_zero, Nat.reduceAdd]
                        refine wM_val ?ura5 rfl rfl Ext.refl (fun w' hD => ?hra5) (fun phra5 => ?nra5)
                        case hra5 =>
                          obtain ⟨d0, d1, d2, d3, d4, d5⟩ := FS.out w' hD.1
                          go_simp; rfl
                        simp only [Act.put, List.setIfInBounds_toArray, List.set_cons_succ, List.set_cons_zero, Nat.reduceAdd]
                        refine wM_val ?ura6 rfl rfl Ext.refl (fun w' hD => ?hra6) (fun phra6 => ?nra6)
                        case hra6 =>
                          obtain ⟨d0, d1, d2, d3, d4, d5⟩ := FS.out w' hD.1
                          go_simp; rfl
                        simp only [Act.put, List.setIfInBounds_toArray, List.set_cons_succ, List.set_cons_zero, Nat.reduceAdd]
                        refine wM_val ?ura7 rfl rfl Ext.refl (fun w' hD => ?hra7) (fun phra7 => ?nra7)
                        case hra7 =>
                          obtain ⟨d0, d1, d2, d3, d4, d5⟩ := FS.out w' hD.1
                          go_simp; rfl
                        simp only [Act.put, List.setIfInBounds_toArray, List.set_cons_succ, List.set_cons_zero, Nat.reduceAdd]
                        refine wM_val ?ura8 rfl rfl Ext.refl (fun w' hD => ?hra8) (fun phra8 => ?nra8)
                        case hra8 =>
                          obtain ⟨d0, d1, d2, d3, d4, d5⟩ := FS.out w' hD.1
                          go_simp; rfl
                        simp only [Act.put, List.setIfInBounds_toArray, List.set_cons_succ, List.set_cons_zero, Nat.reduceAdd]
                        refine wM_val ?ura9 rfl rfl Ext.refl (fun w' hD => ?hra9) (fun phra9 => ?nra9)
                        case hra9 =>
                          obtain ⟨d0, d1, d2, d3, d4, d5⟩ := FS.out w' hD.1
                          go_simp; rfl
                        simp only [Act.put, List.setIfInBounds_toArray, List.set_cons_succ, List.set_cons_zero, Nat.reduceAdd]
                        refine wM_val ?ura10 rfl rfl Ext.refl (fun w' hD => ?hra10) (fun phra10 => ?nra10)
                        case hra10 =>
                          obtain ⟨d0, d1, d2, d3, d4, d5⟩ := FS.out w' hD.1
                          go_simp; rfl
                        simp only [Act.put, List.setIfInBounds_toArray, List.set_cons_succ, List.set_cons_zero, Nat.reduceAdd]
                        refine wM_val ?ura11 rfl rfl Ext.refl (fun w' hD => ?hra11) (fun phra11 => ?nra11)
                        case hra11 =>
                          obtain ⟨d0, d1, d2, d3, d4, d5⟩ := FS.out w' hD.1
                          go_simp; rfl
                        simp only [Act.put, List.setIfInBounds_toArray, List.set_cons_succ, List.set_cons_zero, Nat.reduceAdd]
                        refine wM_val ?ura12 rfl rfl Ext.refl (fun w' hD => ?hra12) (fun phra12 => ?nra12)
                        case hra12 =>
                          obtain ⟨d0, d1, d2, d3, d4, d5⟩ := FS.out w' hD.1
                          go_simp; rfl
                        simp only [Act.put, List.setIfInBounds_toArray, List.set_cons_succ, List.set_cons_zero, Nat.reduceAdd]
                        refine wM_val ?ura13 rfl rfl Ext.refl (fun w' hD => ?hra13) (fun phra13 => ?nra13)
                        case hra13 =>
                          obtain ⟨d0, d1, d2, d3, d4, d5⟩ := FS.out w' hD.1
                          go_simp; rfl
                        simp only [Act.put, List.setIfInBounds_toArray, List.set_cons_succ, List.set_cons_zero, Nat.reduceAdd]
                        refine wM_val ?ura14 rfl rfl Ext.refl (fun w' hD => ?hra14) (fun phra14 => ?nra14)
                        case hra14 =>
                          obtain ⟨d0, d1, d2, d3, d4, d5⟩ := FS.out w' hD.1
                          go_simp; rfl
                        simp only [Act.put, List.setIfInBounds_toArray, List.set_cons_succ, List.set_cons_zero, Nat.reduceAdd]
                        refine wM_val ?ura15 rfl rfl Ext.refl (fun w' hD => ?hra15) (fun phra15 => ?nra15)
                        case hra15 =>
                          obtain ⟨d0, d1, d2, d3, d4, d5⟩ := FS.out w' hD.1
                          go_simp; rfl
                        simp only [Act.put, List.setIfInBounds_toArray, List.set_cons_succ, List.set_cons_zero, Nat.reduceAdd]
                        refine wM_val ?ura16 rfl rfl Ext.refl (fun w' hD => ?hra16) (fun phra16 => ?nra16)
                        case hra16 =>
                          obtain ⟨d0, d1, d2, d3, d4, d5⟩ := FS.out w' hD.1
                          go_simp; rfl
                        simp only [Act.put, List.setIfInBounds_toArray, List.set_cons_succ, List.set_cons_zero, Nat.reduceAdd]
                        refine wM_val ?ura17 rfl rfl Ext.refl (fun w' hD => ?hra17) (fun phra17 => ?nra17)
                        case hra17 =>
                          obtain ⟨d0, d1, d2, d3, d4, d5⟩ := FS.out w' hD.1
                          go_simp; rfl
                        simp only [Act.put, List.setIfInBounds_toArray, List.set_cons_succ, List.set_cons_zero, Nat.reduceAdd]
                        refine wM_val ?ura18 rfl rfl Ext.refl (fun w' hD => ?hra18) (fun phra18 => ?nra18)
                        case hra18 =>
                          obtain ⟨d0, d1, d2, d3, d4, d5⟩ := FS.out w' hD.1
                          go_simp; rfl
                        simp only [Act.put, List.setIfInBounds_toArray, List.set_cons_succ, List.set_cons_zero, Nat.reduceAdd]
                        refine wM_val ?ura19 rfl rfl Ext.refl (fun w' hD => ?hra19) (fun phra19 => ?nra19)
                        case hra19 =>
                          obtain ⟨d0, d1, d2, d3, d4, d5⟩ := FS.out w' hD.1
                          go_simp; rfl
                        simp only [Act.put, List.setIfInBounds_toArray, List.set_cons_succ, List.set_cons_zero, Nat.reduceAdd]
                        refine wM_val ?ura20 rfl rfl Ext.refl (fun w' hD => ?hra20) (fun phra20 => ?nra20)
                        case hra20 =>
                          obtain ⟨d0, d1, d2, d3, d4, d5⟩ := FS.out w' hD.1
                          go_simp; rfl
                        simp only [Act.put, List.setIfInBounds_toArray, List.set_cons_succ, List.set_cons_zero, Nat.reduceAdd]
                        refine wM_val ?ura21 rfl rfl Ext.refl (fun w' hD => ?hra21) (fun phra21 => ?nra21)
                        case hra21 =>
                          obtain ⟨d0, d1, d2, d3, d4, d5⟩ := FS.out w' hD.1
                          go_simp; rfl
                        simp only [Act.put, List.setIfInBounds_toArray, List.set_cons_succ, List.set_cons_zero, Nat.reduceAdd]
                        refine wM_val ?ura22 rfl rfl Ext.refl (fun w' hD => ?hra22) (fun phra22 => ?nra22)
                        case hra22 =>
                          obtain ⟨d0, d1, d2, d3, d4, d5⟩ := FS.out w' hD.1
                          go_simp; rfl
                        simp only [Act.put, List.setIfInBounds_toArray, List.set_cons_succ, List.set_cons_zero, Nat.reduceAdd]
                        refine wM_val ?ura23 rfl rfl Ext.refl (fun w' hD => ?hra23) (fun phra23 => ?nra23)
                        case hra23 =>
                          obtain ⟨d0, d1, d2, d3, d4, d5⟩ := FS.out w' hD.1
                          go_simp; rfl
                        simp only [Act.put, List.setIfInBounds_toArray, List.set_cons_succ, List.set_cons_zero, Nat.reduceAdd]
                        refine wM_val ?ura24 rfl rfl Ext.refl (fun w' hD => ?hra24) (fun phra24 => ?nra24)
                        case hra24 =>
                          obtain ⟨d0, d1, d2, d3, d4, d5⟩ := FS.out w' hD.1
                          go_simp; rfl
                        simp only [Act.put, List.setIfInBounds_toArray, List.set_cons_succ, List.set_cons_zero, Nat.reduceAdd]
                        refine wM_val ?ura25 rfl rfl Ext.refl (fun w' hD => ?hra25) (fun phra25 => ?nra25)
                        case hra25 =>
                          obtain ⟨d0, d1, d2, d3, d4, d5⟩ := FS.out w' hD.1
                          go_simp; rfl
                        simp only [Act.put, List.setIfInBounds_toArray, List.set_cons_succ, List.set_cons_zero, Nat.reduceAdd]
                        refine wM_val ?ura26 rfl rfl Ext.refl (fun w' hD => ?hra26) (fun phra26 => ?nra26)
                        case hra26 =>
                          obtain ⟨d0, d1, d2, d3, d4, d5⟩ := FS.out w' hD.1
                          go_simp; rfl
                        simp only [Act.put, List.setIfInBounds_toArray, List.set_cons_succ, List.set_cons_zero, Nat.reduceAdd]
                        refine wM_val ?ura27 rfl rfl Ext.refl (fun w' hD => ?hra27) (fun phra27 => ?nra27)
                        case hra27 =>
                          obtain ⟨d0, d1, d2, d3, d4, d5⟩ := FS.out w' hD.1
                          go_simp; rfl
                        simp only [Act.put, List.setIfInBounds_toArray, List.set_cons_succ, List.set_cons_zero, Nat.reduceAdd]
                        refine wM_val ?ura28 rfl rfl Ext.refl (fun w' hD => ?hra28) (fun phra28 => ?nra28)
                        case hra28 =>
                          obtain ⟨d0, d1, d2, d3, d4, d5⟩ := FS.out w' hD.1
                          go_simp; rfl
                        simp only [Act.put, List.setIfInBounds_toArray, List.set_cons_succ, List.set_cons_zero, Nat.reduceAdd]
                        refine wM_val ?ura29 rfl rfl Ext.refl (fun w' hD => ?hra29) (fun phra29 => ?nra29)
                        case hra29 =>
                          obtain ⟨d0, d1, d2, d3, d4, d5⟩ := FS.out w' hD.1
                          go_simp; rfl
                        simp only [Act.put, List.setIfInBounds_toArray, List.set_cons_succ, List.set_cons_zero, Nat.reduceAdd]
                        refine wM_val ?ura30 rfl rfl Ext.refl (fun w' hD => ?hra30) (fun phra30 => ?nra30)
                        case hra30 =>
                          obtain ⟨d0, d1, d2, d3, d4, d5⟩ := FS.out w' hD.1
                          go_simp; rfl
                        simp only [Act.put, List.setIfInBounds_toArray, List.set_cons_succ, List.set_cons_zero, Nat.reduceAdd]
                        refine wM_val ?ura31 rfl rfl Ext.refl (fun w' hD => ?hra31) (fun phra31 => ?nra31)
                        case hra31 =>
                          obtain ⟨d0, d1, d2, d3, d4, d5⟩ := FS.out w' hD.1
                          go_simp; rfl
                        simp only [Act.put, List.setIfInBounds_toArray, List.set_cons_succ, List.set_cons_zero, Nat.reduceAdd]
                        refine wM_val ?ura32 rfl rfl Ext.refl (fun w' hD => ?hra32) (fun phra32 => ?nra32)
                        case hra32 =>
                          obtain ⟨d0, d1, d2, d3, d4, d5⟩ := FS.out w' hD.1
                          go_simp; rfl
                        simp only [Act.put, List.setIfInBounds_toArray, List.set_cons_succ, List.set_cons_zero, Nat.reduceAdd]
                        refine wM_val ?ura33 rfl rfl Ext.refl (fun w' hD => ?hra33) (fun phra33 => ?nra33)
                        case hra33 =>
                          obtain ⟨d0, d1, d2, d3, d4, d5⟩ := FS.out w' hD.1
                          go_simp; rfl
                        simp only [Act.put, List.setIfInBounds_toArray, List.set_cons_succ, List.set_cons_zero, Nat.reduceAdd]
                        refine wM_val ?ura34 rfl rfl Ext.refl (fun w' hD => ?hra34) (fun phra34 => ?nra34)
                        case hra34 =>
                          obtain ⟨d0, d1, d2, d3, d4, d5⟩ := FS.out w' hD.1
                          go_simp; rfl
                        simp only [Act.put, List.setIfInBounds_toArray, List.set_cons_succ, List.set_cons_zero, Nat.reduceAdd]
                        refine wM_val ?ura35 rfl rfl Ext.refl (fun w' hD => ?hra35) (fun phra35 => ?nra35)
                        case hra35 =>
                          obtain ⟨d0, d1, d2, d3, d4, d5⟩ := FS.out w' hD.1
                          go_simp; rfl
                        simp only [Act.put, List.setIfInBounds_toArray, List.set_cons_succ, List.set_cons_zero, Nat.reduceAdd]
                        refine wM_val ?ura36 rfl rfl Ext.refl (fun w' hD => ?hra36) (fun phra36 => ?nra36)
                        case hra36 =>
                          obtain ⟨d0, d1, d2, d3, d4, d5⟩ := FS.out w' hD.1
                          go_simp; rfl
                        simp only [Act.put, List.setIfInBounds_toArray, List.set_cons_succ, List.set_cons_zero, Nat.reduceAdd]
                        refine wM_val ?ura37 rfl rfl Ext.refl (fun w' hD => ?hra37) (fun phra37 => ?nra37)
                        case hra37 =>
                          obtain ⟨d0, d1, d2, d3, d4, d5⟩ := FS.out w' hD.1
                          go_simp; rfl
                        simp only [Act.put, List.setIfInBounds_toArray, List.set_cons_succ, List.set_cons_zero, Nat.reduceAdd]
                        refine wM_val ?ura38 rfl rfl Ext.refl (fun w' hD => ?hra38) (fun phra38 => ?nra38)
                        case hra38 =>
                          obtain ⟨d0, d1, d2, d3, d4, d5⟩ := FS.out w' hD.1
                          go_simp; rfl
                        simp only [Act.put, List.setIfInBounds_toArray, List.set_cons_succ, List.set_cons_zero, Nat.reduceAdd]
                        refine wM_val ?ura39 rfl rfl Ext.refl (fun w' hD => ?hra39) (fun phra39 => ?nra39)
                        case hra39 =>
                          obtain ⟨d0, d1, d2, d3, d4, d5⟩ := FS.out w' hD.1
                          go_simp; rfl
                        simp only [Act.put, List.setIfInBounds_toArray, List.set_cons_succ, List.set_cons_zero, Nat.reduceAdd]
                        refine wM_val ?ura40 rfl rfl Ext.refl (fun w' hD => ?hra40) (fun phra40 => ?nra40)
                        case hra40 =>
                          obtain ⟨d0, d1, d2, d3, d4, d5⟩ := FS.out w' hD.1
                          go_simp; rfl
                        simp only [Act.put, List.setIfInBounds_toArray, List.set_cons_succ, List.set_cons_zero, Nat.reduceAdd]
                        refine wM_val ?ura41 rfl rfl Ext.refl (fun w' hD => ?hra41) (fun phra41 => ?nra41)
                        case hra41 =>
                          obtain ⟨d0, d1, d2, d3, d4, d5⟩ := FS.out w' hD.1
                          go_simp; rfl
                        simp only [Act.put, List.setIfInBounds_toArray, List.set_cons_succ, List.set_cons_zero, Nat.reduceAdd]
                        refine wM_val ?ura42 rfl rfl Ext.refl (fun w' hD => ?hra42) (fun phra42 => ?nra42)
                        case hra42 =>
                          obtain ⟨d0, d1, d2, d3, d4, d5⟩ := FS.out w' hD.1
                          go_simp; rfl
                        simp only [Act.put, List.setIfInBounds_toArray, List.set_cons_succ, List.set_cons_zero, Nat.reduceAdd]
                        refine wM_val ?ura43 rfl rfl Ext.refl (fun w' hD => ?hra43) (fun phra43 => ?nra43)
                        case hra43 =>
                          obtain ⟨d0, d1, d2, d3, d4, d5⟩ := FS.out w' hD.1
                          go_simp; rfl
                        simp only [Act.put, List.setIfInBounds_toArray, List.set_cons_succ, List.set_cons_zero, Nat.reduceAdd]
                        refine wM_val ?ura44 rfl rfl Ext.refl (fun w' hD => ?hra44) (fun phra44 => ?nra44)
                        case hra44 =>
                          obtain ⟨d0, d1, d2, d3, d4, d5⟩ := FS.out w' hD.1
                          go_simp; rfl
                        simp only [Act.put, List.setIfInBounds_toArray, List.set_cons_succ, List.set_cons_zero, Nat.reduceAdd]
                        refine wM_val ?ura45 rfl rfl Ext.refl (fun w' hD => ?hra45) (fun phra45 => ?nra45)
                        case hra45 =>
                          obtain ⟨d0, d1, d2, d3, d4, d5⟩ := FS.out w' hD.1
                          go_simp; rfl
                        simp only [Act.put, List.setIfInBounds_toArray, List.set_cons_succ, List.set_cons_zero, Nat.reduceAdd]
                        refine wM_val ?ura46 rfl rfl Ext.refl (fun w' hD => ?hra46) (fun phra46 => ?nra46)
                        case hra46 =>
                          obtain ⟨d0, d1, d2, d3, d4, d5⟩ := FS.out w' hD.1
                          go_simp; rfl
                        simp only [Act.put, List.setIfInBounds_toArray, List.set_cons_succ, List.set_cons_zero, Nat.reduceAdd]
                        refine wM_val ?ura47 rfl rfl Ext.refl (fun w' hD => ?hra47) (fun phra47 => ?nra47)
                        case hra47 =>
                          obtain ⟨d0, d1, d2, d3, d4, d5⟩ := FS.out w' hD.1
                          go_simp; rfl
                        simp only [Act.put, List.setIfInBounds_toArray, List.set_cons_succ, List.set_cons_zero, Nat.reduceAdd]
                        refine wM_val ?ura48 rfl rfl Ext.refl (fun w' hD => ?hra48) (fun phra48 => ?nra48)
                        case hra48 =>
                          obtain ⟨d0, d1, d2, d3, d4, d5⟩ := FS.out w' hD.1
                          go_simp; rfl
                        simp only [Act.put, List.setIfInBounds_toArray, List.set_cons_succ, List.set_cons_zero, Nat.reduceAdd]
                        refine wM_val ?ura49 rfl rfl Ext.refl (fun w' hD => ?hra49) (fun phra49 => ?nra49)
                        case hra49 =>
                          obtain ⟨d0, d1, d2, d3, d4, d5⟩ := FS.out w' hD.1
                          go_simp; rfl
                        simp only [Act.put, List.setIfInBounds_toArray, List.set_cons_succ, List.set_cons_zero, Nat.reduceAdd]
                        refine wM_val ?ura50 rfl rfl Ext.refl (fun w' hD => ?hra50) (fun phra50 => ?nra50)
                        case hra50 =>
                          obtain ⟨d0, d1, d2, d3, d4, d5⟩ := FS.out w' hD.1
                          go_simp; rfl
                        simp only [Act.put, List.setIfInBounds_toArray, List.set_cons_succ, List.set_cons_zero, Nat.reduceAdd]
                        refine wM_val ?ura51 rfl rfl Ext.refl (fun w' hD => ?hra51) (fun phra51 => ?nra51)
                        case hra51 =>
                          obtain ⟨d0, d1, d2, d3, d4, d5⟩ := FS.out w' hD.1
                          go_simp; rfl
                        simp only [Act.put, List.setIfInBounds_toArray, List.set_cons_succ, List.set_cons_zero, Nat.reduceAdd]
                        refine wM_val ?ura52 rfl rfl Ext.refl (fun w' hD => ?hra52) (fun phra52 => ?nra52)
                        case hra52 =>
                          obtain ⟨d0, d1, d2, d3, d4, d5⟩ := FS.out w' hD.1
                          go_simp; rfl
                        simp only [Act.put, List.setIfInBounds_toArray, List.set_cons_succ, List.set_cons_zero, Nat.reduceAdd]
                        refine wM_val ?ura53 rfl rfl Ext.refl (fun w' hD => ?hra53) (fun phra53 => ?nra53)
                        case hra53 =>
                          obtain ⟨d0, d1, d2, d3, d4, d5⟩ := FS.out w' hD.1
                          go_simp; rfl
                        simp only [Act.put, List.setIfInBounds_toArray, List.set_cons_succ, List.set_cons_zero, Nat.reduceAdd]
                        refine wM_val ?ura54 rfl rfl Ext.refl (fun w' hD => ?hra54) (fun phra54 => ?nra54)
                        case hra54 =>
                          obtain ⟨d0, d1, d2, d3, d4, d5⟩ := FS.out w' hD.1
                          go_simp; rfl
                        simp only [Act.put, List.setIfInBounds_toArray, List.set_cons_succ, List.set_cons_zero, Nat.reduceAdd]
                        refine wM_val ?ura55 rfl rfl Ext.refl (fun w' hD => ?hra55) (fun phra55 => ?nra55)
                        case hra55 =>
                          obtain ⟨d0, d1, d2, d3, d4, d5⟩ := FS.out w' hD.1
                          go_simp; rfl
                        simp only [Act.put, List.setIfInBounds_toArray, List.set_cons_succ, List.set_cons_zero, Nat.reduceAdd]
                        refine wM_val ?ura56 rfl rfl Ext.refl (fun w' hD => ?hra56) (fun phra56 => ?nra56)
                        case hra56 =>
                          obtain ⟨d0, d1, d2, d3, d4, d5⟩ := FS.out w' hD.1
                          go_simp; rfl
                        simp only [Act.put, List.setIfInBounds_toArray, List.set_cons_succ, List.set_cons_zero, Nat.reduceAdd]
                        refine wM_val ?ura57 rfl rfl Ext.refl (fun w' hD => ?hra57) (fun phra57 => ?nra57)
                        case hra57 =>
                          obtain ⟨d0, d1, d2, d3, d4, d5⟩ := FS.out w' hD.1
                          go_simp; rfl
                        simp only [Act.put, List.setIfInBounds_toArray, List.set_cons_succ, List.set_cons_zero, Nat.reduceAdd]
                        refine wM_val ?ura58 rfl rfl Ext.refl (fun w' hD => ?hra58) (fun phra58 => ?nra58)
                        case hra58 =>
                          obtain ⟨d0, d1, d2, d3, d4, d5⟩ := FS.out w' hD.1
                          go_simp; rfl
                        simp only [Act.put, List.setIfInBounds_toArray, List.set_cons_succ, List.set_cons_zero, Nat.reduceAdd]
                        refine wM_val ?ura59 rfl rfl Ext.refl (fun w' hD => ?hra59) (fun phra59 => ?nra59)
                        case hra59 =>
                          obtain ⟨d0, d1, d2, d3, d4, d5⟩ := FS.out w' hD.1
                          go_simp; rfl
                        simp only [Act.put, List.setIfInBounds_toArray, List.set_cons_succ, List.set_cons_zero, Nat.reduceAdd]
                        refine wM_nil ?_
                        intro w9 hw9 hF9
                        clear hF9

                        go_wp2_with fail
                        go_meet
                        exact ⟨rfl, hw9⟩
                      · clear TRI
                        refine wp_region_shut Ext (fun w' => Ext wr w') (fun
                          | _ => none) (by kernel_rfl) (by kernel_rfl) (fun _ _ h k => h.trans k) ?hTrb (Ext.drew (Ext.refl wr)) ?_
                        case hTrb =>
                          intro i R hR
                          cases hR
                        refine wM_val ?urb0 rfl rfl Ext.refl (fun w' hD => ?hrb0) (fun phrb0 => ?nrb0)
                        case hrb0 =>
                          obtain ⟨d0, d1, d2, d3, d4, d5⟩ := FS.out w' hD.1
                          go_simp; rfl
                        simp only [Act.put, List.setIfInBounds_toArray, List.set_cons_succ, List.set_cons_zero, Nat.reduceAdd]
                        refine wM_val ?urb1 rfl rfl Ext.refl (fun w' hD => ?hrb1) (fun phrb1 => ?nrb1)
                        case hrb1 =>
                          obtain ⟨d0, d1, d2, d3, d4, d5⟩ := FS.out w' hD.1
                          go_simp; rfl
                        simp only [Act.put, List.setIfInBounds_toArray, List.set_cons_succ, List.set_cons_zero, Nat.reduceAdd]
                        refine wM_val ?urb2 rfl rfl Ext.refl (fun w' hD => ?hrb2) (fun phrb2 => ?nrb2)
                        case hrb2 =>
                          obtain ⟨d0, d1, d2, d3, d4, d5⟩ := FS.out w' hD.1
                          go_simp; rfl
                        simp only [Act.put, List.setIfInBounds_toArray, List.set_cons_succ, List.set_cons_zero, Nat.reduceAdd]
                        refine wM_val ?urb3 rfl rfl Ext.refl (fun w' hD => ?hrb3) (fun phrb3 => ?nrb3)
                        case hrb3 =>
                          obtain ⟨d0, d1, d2, d3, d4, d5⟩ := FS.out w' hD.1
                          go_simp; rfl
                        simp only [Act.put, List.setIfInBounds_toArray, List.set_cons_succ, List.set_cons_zero, Nat.reduceAdd]
                        refine wM_val ?urb4 rfl rfl Ext.refl (fun w' hD => ?hrb4) (fun phrb4 => ?nrb4)
                        case hrb4 =>
                          obtain ⟨d0, d1, d2, d3, d4, d5⟩ := FS.out w' hD.1
                          go_simp; rfl
                        simp only [Act.put, List.setIfInBounds_toArray, List.set_cons_succ, List.set_cons_zero, Nat.reduceAdd]
                        refine wM_val ?urb5 rfl rfl Ext.refl (fun w' hD => ?hrb5) (fun phrb5 => ?nrb5)
                        case hrb5 =>
                          obtain ⟨d0, d1, d2, d3, d4, d5⟩ := FS.out w' hD.1
                          go_simp; rfl
                        simp only [Act.put, List.setIfInBounds_toArray, List.set_cons_succ, List.set_cons_zero, Nat.reduceAdd]
                        refine wM_val ?urb6 rfl rfl Ext.refl (fun w' hD => ?hrb6) (fun phrb6 => ?nrb6)
                        case hrb6 =>
                          obtain ⟨d0, d1, d2, d3, d4, d5⟩ := FS.out w' hD.1
                          go_simp; rfl
                        simp only [Act.put, List.setIfInBounds_toArray, List.set_cons_succ, List.set_cons_zero, Nat.reduceAdd]
                        refine wM_val ?urb7 rfl rfl Ext.refl (fun w' hD => ?hrb7) (fun phrb7 => ?nrb7)
                        case hrb7 =>
                          obtain ⟨d0, d1, d2, d3, d4, d5⟩ := FS.out w' hD.1
                          go_simp; rfl
                        simp only [Act.put, List.setIfInBounds_toArray, List.set_cons_succ, List.set_cons_zero, Nat.reduceAdd]
                        refine wM_val ?urb8 rfl rfl Ext.refl (fun w' hD => ?hrb8) (fun phrb8 => ?nrb8)
                        case hrb8 =>
                          obtain ⟨d0, d1, d2, d3, d4, d5⟩ := FS.out w' hD.1
                          go_simp; rfl
                        simp only [Act.put, List.setIfInBounds_toArray, List.set_cons_succ, List.set_cons_zero, Nat.reduceAdd]
                        refine wM_val ?urb9 rfl rfl Ext.refl (fun w' hD => ?hrb9) (fun phrb9 => ?nrb9)
                        case hrb9 =>
                          obtain ⟨d0, d1, d2, d3, d4, d5⟩ := FS.out w' hD.1
                          go_simp; rfl
                        simp only [Act.put, List.setIfInBounds_toArray, List.set_cons_succ, List.set_cons_zero, Nat.reduceAdd]
                        refine wM_val ?urb10 rfl rfl Ext.refl (fun w' hD => ?hrb10) (fun phrb10 => ?nrb10)
                        case hrb10 =>
                          obtain ⟨d0, d1, d2, d3, d4, d5⟩ := FS.out w' hD.1
                          go_simp; rfl
                        simp only [Act.put, List.setIfInBounds_toArray, List.set_cons_succ, List.set_cons_zero, Nat.reduceAdd]
                        refine wM_val ?urb11 rfl rfl Ext.refl (fun w' hD => ?hrb11) (fun phrb11 => ?nrb11)
                        case hrb11 =>
                          obtain ⟨d0, d1, d2, d3, d4, d5⟩ := FS.out w' hD.1
                          go_simp; rfl
                        simp only [Act.put, List.setIfInBounds_toArray, List.set_cons_succ, List.set_cons_zero, Nat.reduceAdd]
                        refine wM_val ?urb12 rfl rfl Ext.refl (fun w' hD => ?hrb12) (fun phrb12 => ?nrb12)
                        case hrb12 =>
                          obtain ⟨d0, d1, d2, d3, d4, d5⟩ := FS.out w' hD.1
                          go_simp; rfl
                        simp only [Act.put, List.setIfInBounds_toArray, List.set_cons_succ, List.set_cons_zero, Nat.reduceAdd]
                        refine wM_val ?urb13 rfl rfl Ext.refl (fun w' hD => ?hrb13) (fun phrb13 => ?nrb13)
                        case hrb13 =>
                          obtain ⟨d0, d1, d2, d3, d4, d5⟩ := FS.out w' hD.1
                          go_simp; rfl
                        simp only [Act.put, List.setIfInBounds_toArray, List.set_cons_succ, List.set_cons_zero, Nat.reduceAdd]
                        refine wM_val ?urb14 rfl rfl Ext.refl (fun w' hD => ?hrb14) (fun phrb14 => ?nrb14)
                        case hrb14 =>
                          obtain ⟨d0, d1, d2, d3, d4, d5⟩ := FS.out w' hD.1
                          go_simp; rfl
                        simp only [Act.put, List.setIfInBounds_toArray, List.set_cons_succ, List.set_cons_zero, Nat.reduceAdd]
                        refine wM_val ?urb15 rfl rfl Ext.refl (fun w' hD => ?hrb15) (fun phrb15 => ?nrb15)
                        case hrb15 =>
                          obtain ⟨d0, d1, d2, d3, d4, d5⟩ := FS.out w' hD.1
                          go_simp; rfl
                        simp only [Act.put, List.setIfInBounds_toArray, List.set_cons_succ, List.set_cons_zero, Nat.reduceAdd]
                        refine wM_val ?urb16 rfl rfl Ext.refl (fun w' hD => ?hrb16) (fun phrb16 => ?nrb16)
                        case hrb16 =>
                          obtain ⟨d0, d1, d2, d3, d4, d5⟩ := FS.out w' hD.1
                          go_simp; rfl
                        simp only [Act.put, List.setIfInBounds_toArray, List.set_cons_succ, List.set_cons_zero, Nat.reduceAdd]
                        refine wM_val ?urb17 rfl rfl Ext.refl (fun w' hD => ?hrb17) (fun phrb17 => ?nrb17)
                        case hrb17 =>
                          obtain ⟨d0, d1, d2, d3, d4, d5⟩ := FS.out w' hD.1
                          go_simp; rfl
                        simp only [Act.put, List.setIfInBounds_toArray, List.set_cons_succ, List.set_cons_zero, Nat.reduceAdd]
                        refine wM_val ?urb18 rfl rfl Ext.refl (fun w' hD => ?hrb18) (fun phrb18 => ?nrb18)
                        case hrb18 =>
                          obtain ⟨d0, d1, d2, d3, d4, d5⟩ := FS.out w' hD.1
                          go_simp; rfl
                        simp only [Act.put, List.setIfInBounds_toArray, List.set_cons_succ, List.set_cons_zero, Nat.reduceAdd]
                        refine wM_val ?urb19 rfl rfl Ext.refl (fun w' hD => ?hrb19) (fun phrb19 => ?nrb19)
                        case hrb19 =>
                          obtain ⟨d0, d1, d2, d3, d4, d5⟩ := FS.out w' hD.1
                          go_simp; rfl
                        simp only [Act.put, List.setIfInBounds_toArray, List.set_cons_succ, List.set_cons_zero, Nat.reduceAdd]
                        refine wM_val ?urb20 rfl rfl Ext.refl (fun w' hD => ?hrb20) (fun phrb20 => ?nrb20)
                        case hrb20 =>
                          obtain ⟨d0, d1, d2, d3, d4, d5⟩ := FS.out w' hD.1
                          go_simp; rfl
                        simp only [Act.put, List.setIfInBounds_toArray, List.set_cons_succ, List.set_cons_zero, Nat.reduceAdd]
                        refine wM_val ?urb21 rfl rfl Ext.refl (fun w' hD => ?hrb21) (fun phrb21 => ?nrb21)
                        case hrb21 =>
                          obtain ⟨d0, d1, d2, d3, d4, d5⟩ := FS.out w' hD.1
                          go_simp; rfl
                        simp only [Act.put, List.setIfInBounds_toArray, List.set_cons_succ, List.set_cons_zero, Nat.reduceAdd]
                        refine wM_val ?urb22 rfl rfl Ext.refl (fun w' hD => ?hrb22) (fun phrb22 => ?nrb22)
                        case hrb22 =>
                          obtain ⟨d0, d1, d2, d3, d4, d5⟩ := FS.out w' hD.1
                          go_simp; rfl
                        simp only [Act.put, List.setIfInBounds_toArray, List.set_cons_succ, List.set_cons_zero, Nat.reduceAdd]
                        refine wM_val ?urb23 rfl rfl Ext.refl (fun w' hD => ?hrb23) (fun phrb23 => ?nrb23)
                        case hrb23 =>
                          obtain ⟨d0, d1, d2, d3, d4, d5⟩ := FS.out w' hD.1
                          go_simp; rfl
                        simp only [Act.put, List.setIfInBounds_toArray, List.set_cons_succ, List.set_cons_zero, Nat.reduceAdd]
                        refine wM_val ?urb24 rfl rfl Ext.refl (fun w' hD => ?hrb24) (fun phrb24 => ?nrb24)
                        case hrb24 =>
                          obtain ⟨d0, d1, d2, d3, d4, d5⟩ := FS.out w' hD.1
                          go_simp; rfl
                        simp only [Act.put, List.setIfInBounds_toArray, List.set_cons_succ, List.set_cons_zero, Nat.reduceAdd]
                        refine wM_val ?urb25 rfl rfl Ext.refl (fun w' hD => ?hrb25) (fun phrb25 => ?nrb25)
                        case hrb25 =>
                          obtain ⟨d0, d1, d2, d3, d4, d5⟩ := FS.out w' hD.1
                          go_simp; rfl
                        simp only [Act.put, List.setIfInBounds_toArray, List.set_cons_succ, List.set_cons_zero, Nat.reduceAdd]
                        refine wM_val ?urb26 rfl rfl Ext.refl (fun w' hD => ?hrb26) (fun phrb26 => ?nrb26)
                        case hrb26 =>
                          obtain ⟨d0, d1, d2, d3, d4, d5⟩ := FS.out w' hD.1
                          go_simp; rfl
                        simp only [Act.put, List.setIfInBounds_toArray, List.set_cons_succ, List.set_cons_zero, Nat.reduceAdd]
                        refine wM_val ?urb27 rfl rfl Ext.refl (fun w' hD => ?hrb27) (fun phrb27 => ?nrb27)
                        case hrb27 =>
                          obtain ⟨d0, d1, d2, d3, d4, d5⟩ := FS.out w' hD.1
                          go_simp; rfl
                        simp only [Act.put, List.setIfInBounds_toArray, List.set_cons_succ, List.set_cons_zero, Nat.reduceAdd]
                        refine wM_val ?urb28 rfl rfl Ext.refl (fun w' hD => ?hrb28) (fun phrb28 => ?nrb28)
                        case hrb28 =>
                          obtain ⟨d0, d1, d2, d3, d4, d5⟩ := FS.out w' hD.1
                          go_simp; rfl
                        simp only [Act.put, List.setIfInBounds_toArray, List.set_cons_succ, List.set_cons_zero, Nat.reduceAdd]
                        refine wM_val ?urb29 rfl rfl Ext.refl (fun w' hD => ?hrb29) (fun phrb29 => ?nrb29)
                        case hrb29 =>
                          obtain ⟨d0, d1, d2, d3, d4, d5⟩ := FS.out w' hD.1
                          go_simp; rfl
                        simp only [Act.put, List.setIfInBounds_toArray, List.set_cons_succ, List.set_cons_zero, Nat.reduceAdd]
                        refine wM_val ?urb30 rfl rfl Ext.refl (fun w' hD => ?hrb30) (fun phrb30 => ?nrb30)
                        case hrb30 =>
                          obtain ⟨d0, d1, d2, d3, d4, d5⟩ := FS.out w' hD.1
                          go_simp; rfl
                        simp only [Act.put, List.setIfInBounds_toArray, List.set_cons_succ, List.set_cons_zero, Nat.reduceAdd]
                        refine wM_val ?urb31 rfl rfl Ext.refl (fun w' hD => ?hrb31) (fun phrb31 => ?nrb31)
                        case hrb31 =>
                          obtain ⟨d0, d1, d2, d3, d4, d5⟩ := FS.out w' hD.1
                          go_simp; rfl
                        simp only [Act.put, List.setIfInBounds_toArray, List.set_cons_succ, List.set_cons_zero, Nat.reduceAdd]
                        refine wM_val ?urb32 rfl rfl Ext.refl (fun w' hD => ?hrb32) (fun phrb32 => ?nrb32)
                        case hrb32 =>
                          obtain ⟨d0, d1, d2, d3, d4, d5⟩ := FS.out w' hD.1
                          go_simp; rfl
                        simp only [Act.put, List.setIfInBounds_toArray, List.set_cons_succ, List.set_cons_zero, Nat.reduceAdd]
                        refine wM_val ?urb33 rfl rfl Ext.refl (fun w' hD => ?hrb33) (fun phrb33 => ?nrb33)
                        case hrb33 =>
                          obtain ⟨d0, d1, d2, d3, d4, d5⟩ := FS.out w' hD.1
                          go_simp; rfl
                        simp only [Act.put, List.setIfInBounds_toArray, List.set_cons_succ, List.set_cons_zero, Nat.reduceAdd]
                        refine wM_val ?urb34 rfl rfl Ext.refl (fun w' hD => ?hrb34) (fun phrb34 => ?nrb34)
                        case hrb34 =>
                          obtain ⟨d0, d1, d2, d3, d4, d5⟩ := FS.out w' hD.1
                          go_simp; rfl
                        simp only [Act.put, List.setIfInBounds_toArray, List.set_cons_succ, List.set_cons_zero, Nat.reduceAdd]
                        refine wM_skip rfl ?_
                        simp only [Act.put, List.setIfInBounds_toArray, List.set_cons_succ, List.set_cons_zero, Nat.reduceAdd]
                        refine wM_skip rfl ?_
                        simp only [Act.put, List.setIfInBounds_toArray, List.set_cons_succ, List.set_cons_zero, Nat.reduceAdd]
                        refine wM_skip rfl ?_
                        simp only [Act.put, List.setIfInBounds_toArray, List.set_cons_succ, List.set_cons_zero, Nat.reduceAdd]
                        refine wM_skip rfl ?_
                        simp only [Act.put, List.setIfInBounds_toArray, List.set_cons_succ, List.set_cons_zero, Nat.reduceAdd]
                        refine wM_skip rfl ?_
                        simp only [Act.put, List.setIfInBounds_toArray, List.set_cons_succ, List.set_cons_zero, Nat.reduceAdd]
                        refine wM_skip rfl ?_
                        simp only [Act.put, List.setIfInBounds_toArray, List.set_cons_succ, List.set_cons_zero, Nat.reduceAdd]
                        refine wM_skip rfl ?_
                        simp only [Act.put, List.setIfInBounds_toArray, List.set_cons_succ, List.set_cons_zero, Nat.reduceAdd]
                        refine wM_skip rfl ?_
                        simp only [Act.put, List.setIfInBounds_toArray, List.set_cons_succ, List.set_cons_zero, Nat.reduceAdd]
                        refine wM_skip rfl ?_
                        simp only [Act.put, List.setIfInBounds_toArray, List.set_cons_succ, List.set_cons_zero, Nat.reduceAdd]
                        refine wM_skip rfl ?_
                        simp only [Act.put, List.setIfInBounds_toArray, List.set_cons_succ, List.set_cons_zero, Nat.reduceAdd]
                        refine wM_skip rfl ?_
                        simp only [Act.put, List.setIfInBounds_toArray, List.set_cons_succ, List.set_cons_zero, Nat.reduceAdd]
                        refine wM_skip rfl ?_
                        simp only [Act.put, List.setIfInBounds_toArray, List.set_cons_succ, List.set_cons_zero, Nat.reduceAdd]
                        refine wM_skip rfl ?_
                        simp only [Act.put, List.setIfInBounds_toArray, List.set_cons_succ, List.set_cons_zero, Nat.reduceAdd]
                        refine wM_skip rfl ?_
                        simp only [Act.put, List.setIfInBounds_toArray, List.set_cons_succ, List.set_cons_zero, Nat.reduceAdd]
                        refine wM_skip rfl ?_
                        simp only [Act.put, List.setIfInBounds_toArray, List.set_cons_succ, List.set_cons_zero, Nat.reduceAdd]
                        refine wM_skip rfl ?_
                        simp only [Act.put, List.setIfInBounds_toArray, List.set_cons_succ, List.set_cons_zero, Nat.reduceAdd]
                        refine wM_skip rfl ?_
                        simp only [Act.put, List.setIfInBounds_toArray, List.set_cons_succ, List.set_cons_zero, Nat.reduceAdd]
                        refine wM_skip rfl ?_
                        simp only [Act.put, List.setIfInBounds_toArray, List.set_cons_succ, List.set_cons_zero, Nat.reduceAdd]
                        refine wM_skip rfl ?_
                        simp only [Act.put, List.setIfInBounds_toArray, List.set_cons_succ, List.set_cons_zero, Nat.reduceAdd]
                        refine wM_skip rfl ?_
                        simp only [Act.put, List.setIfInBounds_toArray, List.set_cons_succ, List.set_cons_zero, Nat.reduceAdd]
                        refine wM_skip rfl ?_
                        simp only [Act.put, List.setIfInBounds_toArray, List.set_cons_succ, List.set_cons_zero, Nat.reduceAdd]
                        refine wM_skip rfl ?_
                        simp only [Act.put, List.setIfInBounds_toArray, List.set_cons_succ, List.set_cons_zero, Nat.reduceAdd]
                        refine wM_skip rfl ?_
                        simp only [Act.put, List.setIfInBounds_toArray, List.set_cons_succ, List.set_cons_zero, Nat.reduceAdd]
                        refine wM_val ?urb58 rfl rfl Ext.refl (fun w' hD => ?hrb58) (fun phrb58 => ?nrb58)
                        case hrb58 =>
                          obtain ⟨d0, d1, d2, d3, d4, d5⟩ := FS.out w' hD.1
                          go_simp; rfl
                        simp only [Act.put, List.setIfInBounds_toArray, List.set_cons_succ, List.set_cons_zero, Nat.reduceAdd]
                        refine wM_val ?urb59 rfl rfl Ext.refl (fun w' hD => ?hrb59) (fun phrb59 => ?nrb59)
                        case hrb59 =>
                          obtain ⟨d0, d1, d2, d3, d4, d5⟩ := FS.out w' hD.1
                          go_simp; rfl
                        simp only [Act.put, List.setIfInBounds_toArray, List.set_cons_succ, List.set_cons_zero, Nat.reduceAdd]
                        refine wM_nil ?_
                        intro w9 hw9 hF9
                        clear hF9

                        go_wp2_with fail
                        go_meet
                        exact ⟨rfl, hw9⟩
                    · clear TRI
                      refine wp_region_shut Ext (fun w' => Ext wr w') (fun
                        | _ => none) (by kernel_rfl) (by kernel_rfl) (fun _ _ h k => h.trans k) ?hTrc (Ext.drew (Ext.refl wr)) ?_
                      case hTrc =>
                        intro i R hR
                        cases hR
                      refine wM_val ?urc0 rfl rfl Ext.refl (fun w' hD => ?hrc0) (fun phrc0 => ?nrc0)
                      case hrc0 =>
                        obtain ⟨d0, d1, d2, d3, d4, d5⟩ := FS.out w' hD.1
                        go_simp; rfl
                      simp only [Act.put, List.setIfInBounds_toArray, List.set_cons_succ, List.set_cons_zero, Nat.reduceAdd]
                      refine wM_val ?urc1 rfl rfl Ext.refl (fun w' hD => ?hrc1) (fun phrc1 => ?nrc1)
                      case hrc1 =>
                        obtain ⟨d0, d1, d2, d3, d4, d5⟩ := FS.out w' hD.1
                        go_simp; rfl
                      simp only [Act.put, List.setIfInBounds_toArray, List.set_cons_succ, List.set_cons_zero, Nat.reduceAdd]
                      refine wM_val ?urc2 rfl rfl Ext.refl (fun w' hD => ?hrc2) (fun phrc2 => ?nrc2)
                      case hrc2 =>
                        obtain ⟨d0, d1, d2, d3, d4, d5⟩ := FS.out w' hD.1
                        go_simp; rfl
                      simp only [Act.put, List.setIfInBounds_toArray, List.set_cons_succ, List.set_cons_zero, Nat.reduceAdd]
                      refine wM_val ?urc3 rfl rfl Ext.refl (fun w' hD => ?hrc3) (fun phrc3 => ?nrc3)
                      case hrc3 =>
                        obtain ⟨d0, d1, d2, d3, d4, d5⟩ := FS.out w' hD.1
                        go_simp; rfl
                      simp only [Act.put, List.setIfInBounds_toArray, List.set_cons_succ, List.set_cons_zero, Nat.reduceAdd]
                      refine wM_val ?urc4 rfl rfl Ext.refl (fun w' hD => ?hrc4) (fun phrc4 => ?nrc4)
                      case hrc4 =>
                        obtain ⟨d0, d1, d2, d3, d4, d5⟩ := FS.out w' hD.1
                        go_simp; rfl
                      simp only [Act.put, List.setIfInBounds_toArray, List.set_cons_succ, List.set_cons_zero, Nat.reduceAdd]
                      refine wM_val ?urc5 rfl rfl Ext.refl (fun w' hD => ?hrc5) (fun phrc5 => ?nrc5)
                      case hrc5 =>
                        obtain ⟨d0, d1, d2, d3, d4, d5⟩ := FS.out w' hD.1
                        go_simp; rfl
                      simp only [Act.put, List.setIfInBounds_toArray, List.set_cons_succ, List.set_cons_zero, Nat.reduceAdd]
                      refine wM_val ?urc6 rfl rfl Ext.refl (fun w' hD => ?hrc6) (fun phrc6 => ?nrc6)
                      case hrc6 =>
                        obtain ⟨d0, d1, d2, d3, d4, d5⟩ := FS.out w' hD.1
                        go_simp; rfl
                      simp only [Act.put, List.setIfInBounds_toArray, List.set_cons_succ, List.set_cons_zero, Nat.reduceAdd]
                      refine wM_val ?urc7 rfl rfl Ext.refl (fun w' hD => ?hrc7) (fun phrc7 => ?nrc7)
                      case hrc7 =>
                        obtain ⟨d0, d1, d2, d3, d4, d5⟩ := FS.out w' hD.1
                        go_simp; rfl
                      simp only [Act.put, List.setIfInBounds_toArray, List.set_cons_succ, List.set_cons_zero, Nat.reduceAdd]
                      refine wM_val ?urc8 rfl rfl Ext.refl (fun w' hD => ?hrc8) (fun phrc8 => ?nrc8)
                      case hrc8 =>
                        obtain ⟨d0, d1, d2, d3, d4, d5⟩ := FS.out w' hD.1
                        go_simp; rfl
                      simp only [Act.put, List.setIfInBounds_toArray, List.set_cons_succ, List.set_cons_zero, Nat.reduceAdd]
                      refine wM_val ?urc9 rfl rfl Ext.refl (fun w' hD => ?hrc9) (fun phrc9 => ?nrc9)
                      case hrc9 =>
                        obtain ⟨d0, d1, d2, d3, d4, d5⟩ := FS.out w' hD.1
                        go_simp; rfl
                      simp only [Act.put, List.setIfInBounds_toArray, List.set_cons_succ, List.set_cons_zero, Nat.reduceAdd]
                      refine wM_val ?urc10 rfl rfl Ext.refl (fun w' hD => ?hrc10) (fun phrc10 => ?nrc10)
                      case hrc10 =>
                        obtain ⟨d0, d1, d2, d3, d4, d5⟩ := FS.out w' hD.1
                        go_simp; rfl
                      simp only [Act.put, List.setIfInBounds_toArray, List.set_cons_succ, List.set_cons_zero, Nat.reduceAdd]
                      refine wM_val ?urc11 rfl rfl Ext.refl (fun w' hD => ?hrc11) (fun phrc11 => ?nrc11)
                      case hrc11 =>
                        obtain ⟨d0, d1, d2, d3, d4, d5⟩ := FS.out w' hD.1
                        go_simp; rfl
                      simp only [Act.put, List.setIfInBounds_toArray, List.set_cons_succ, List.set_cons_zero, Nat.reduceAdd]
                      refine wM_val ?urc12 rfl rfl Ext.refl (fun w' hD => ?hrc12) (fun phrc12 => ?nrc12)
                      case hrc12 =>
                        obtain ⟨d0, d1, d2, d3, d4, d5⟩ := FS.out w' hD.1
                        go_simp; rfl
                      simp only [Act.put, List.setIfInBounds_toArray, List.set_cons_succ, List.set_cons_zero, Nat.reduceAdd]
                      refine wM_val ?urc13 rfl rfl Ext.refl (fun w' hD => ?hrc13) (fun phrc13 => ?nrc13)
                      case hrc13 =>
                        obtain ⟨d0, d1, d2, d3, d4, d5⟩ := FS.out w' hD.1
                        go_simp; rfl
                      simp only [Act.put, List.setIfInBounds_toArray, List.set_cons_succ, List.set_cons_zero, Nat.reduceAdd]
                      refine wM_val ?urc14 rfl rfl Ext.refl (fun w' hD => ?hrc14) (fun phrc14 => ?nrc14)
                      case hrc14 =>
                        obtain ⟨d0, d1, d2, d3, d4, d5⟩ := FS.out w' hD.1
                        go_simp; rfl
                      simp only [Act.put, List.setIfInBounds_toArray, List.set_cons_succ, List.set_cons_zero, Nat.reduceAdd]
                      refine wM_val ?urc15 rfl rfl Ext.refl (fun w' hD => ?hrc15) (fun phrc15 => ?nrc15)
                      case hrc15 =>
                        obtain ⟨d0, d1, d2, d3, d4, d5⟩ := FS.out w' hD.1
                        go_simp; rfl
                      simp only [Act.put, List.setIfInBounds_toArray, List.set_cons_succ, List.set_cons_zero, Nat.reduceAdd]
                      refine wM_val ?urc16 rfl rfl Ext.refl (fun w' hD => ?hrc16) (fun phrc16 => ?nrc16)
                      case hrc16 =>
                        obtain ⟨d0, d1, d2, d3, d4, d5⟩ := FS.out w' hD.1
                        go_simp; rfl
                      simp only [Act.put, List.setIfInBounds_toArray, List.set_cons_succ, List.set_cons_zero, Nat.reduceAdd]
                      refine wM_val ?urc17 rfl rfl Ext.refl (fun w' hD => ?hrc17) (fun phrc17 => ?nrc17)
                      case hrc17 =>
                        obtain ⟨d0, d1, d2, d3, d4, d5⟩ := FS.out w' hD.1
                        go_simp; rfl
                      simp only [Act.put, List.setIfInBounds_toArray, List.set_cons_succ, List.set_cons_zero, Nat.reduceAdd]
                      refine wM_val ?urc18 rfl rfl Ext.refl (fun w' hD => ?hrc18) (fun phrc18 => ?nrc18)
                      case hrc18 =>
                        obtain ⟨d0, d1, d2, d3, d4, d5⟩ := FS.out w' hD.1
                        go_simp; rfl
                      simp only [Act.put, List.setIfInBounds_toArray, List.set_cons_succ, List.set_cons_zero, Nat.reduceAdd]
                      refine wM_val ?urc19 rfl rfl Ext.refl (fun w' hD => ?hrc19) (fun phrc19 => ?nrc19)
                      case hrc19 =>
                        obtain ⟨d0, d1, d2, d3, d4, d5⟩ := FS.out w' hD.1
                        go_simp; rfl
                      simp only [Act.put, List.setIfInBounds_toArray, List.set_cons_succ, List.set_cons_zero, Nat.reduceAdd]
                      refine wM_val ?urc20 rfl rfl Ext.refl (fun w' hD => ?hrc20) (fun phrc20 => ?nrc20)
                      case hrc20 =>
                        obtain ⟨d0, d1, d2, d3, d4, d5⟩ := FS.out w' hD.1
                        go_simp; rfl
                      simp only [Act.put, List.setIfInBounds_toArray, List.set_cons_succ, List.set_cons_zero, Nat.reduceAdd]
                      refine wM_val ?urc21 rfl rfl Ext.refl (fun w' hD => ?hrc21) (fun phrc21 => ?nrc21)
                      case hrc21 =>
                        obtain ⟨d0, d1, d2, d3, d4, d5⟩ := FS.out w' hD.1
                        go_simp; rfl
                      simp only [Act.put, List.setIfInBounds_toArray, List.set_cons_succ, List.set_cons_zero, Nat.reduceAdd]
                      refine wM_val ?urc22 rfl rfl Ext.refl (fun w' hD => ?hrc22) (fun phrc22 => ?nrc22)
                      case hrc22 =>
                        obtain ⟨d0, d1, d2, d3, d4, d5⟩ := FS.out w' hD.1
                        go_simp; rfl
                      simp only [Act.put, List.setIfInBounds_toArray, List.set_cons_succ, List.set_cons_zero, Nat.reduceAdd]
                      refine wM_val ?urc23 rfl rfl Ext.refl (fun w' hD => ?hrc23) (fun phrc23 => ?nrc23)
                      case hrc23 =>
                        obtain ⟨d0, d1, d2, d3, d4, d5⟩ := FS.out w' hD.1
                        go_simp; rfl
                      simp only [Act.put, List.setIfInBounds_toArray, List.set_cons_succ, List.set_cons_zero, Nat.reduceAdd]
                      refine wM_val ?urc24 rfl rfl Ext.refl (fun w' hD => ?hrc24) (fun phrc24 => ?nrc24)
                      case hrc24 =>
                        obtain ⟨d0, d1, d2, d3, d4, d5⟩ := FS.out w' hD.1
                        go_simp; rfl
                      simp only [Act.put, List.setIfInBounds_toArray, List.set_cons_succ, List.set_cons_zero, Nat.reduceAdd]
                      refine wM_skip rfl ?_
                      simp only [Act.put, List.setIfInBounds_toArray, List.set_cons_succ, List.set_cons_zero, Nat.reduceAdd]
                      refine wM_skip rfl ?_
                      simp only [Act.put, List.setIfInBounds_toArray, List.set_cons_succ, List.set_cons_zero, Nat.reduceAdd]
                      refine wM_skip rfl ?_
                      simp only [Act.put, List.setIfInBounds_toArray, List.set_cons_succ, List.set_cons_zero, Nat.reduceAdd]
                      refine wM_skip rfl ?_
                      simp only [Act.put, List.setIfInBounds_toArray, List.set_cons_succ, List.set_cons_zero, Nat.reduceAdd]
                      refine wM_skip rfl ?_
                      simp only [Act.put, List.setIfInBounds_toArray, List.set_cons_succ, List.set_cons_zero, Nat.reduceAdd]
                      refine wM_skip rfl ?_
                      simp only [Act.put, List.setIfInBounds_toArray, List.set_cons_succ, List.set_cons_zero, Nat.reduceAdd]
                      refine wM_skip rfl ?_
                      simp only [Act.put, List.setIfInBounds_toArray, List.set_cons_succ, List.set_cons_zero, Nat.reduceAdd]
                      refine wM_skip rfl ?_
                      simp only [Act.put, List.setIfInBounds_toArray, List.set_cons_succ, List.set_cons_zero, Nat.reduceAdd]
                      refine wM_val ?urc33 rfl rfl Ext.refl (fun w' hD => ?hrc33) (fun phrc33 => ?nrc33)
                      case hrc33 =>
                        obtain ⟨d0, d1, d2, d3, d4, d5⟩ := FS.out w' hD.1
                        go_simp; rfl
                      simp only [Act.put, List.setIfInBounds_toArray, List.set_cons_succ, List.set_cons_zero, Nat.reduceAdd]
                      refine wM_val ?urc34 rfl rfl Ext.refl (fun w' hD => ?hrc34) (fun phrc34 => ?nrc34)
                      case hrc34 =>
                        obtain ⟨d0, d1, d2, d3, d4, d5⟩ := FS.out w' hD.1
                        go_simp; rfl
                      simp only [Act.put, List.setIfInBounds_toArray, List.set_cons_succ, List.set_cons_zero, Nat.reduceAdd]
                      refine wM_skip rfl ?_
                      simp only [Act.put, List.setIfInBounds_toArray, List.set_cons_succ, List.set_cons_zero, Nat.reduceAdd]
                      refine wM_skip rfl ?_
                      simp only [Act.put, List.setIfInBounds_toArray, List.set_cons_succ, List.set_cons_zero, Nat.reduceAdd]
                      refine wM_skip rfl ?_
                      simp only [Act.put, List.setIfInBounds_toArray, List.set_cons_succ, List.set_cons_zero, Nat.reduceAdd]
                      refine wM_skip rfl ?_
                      simp only [Act.put, List.setIfInBounds_toArray, List.set_cons_succ, List.set_cons_zero, Nat.reduceAdd]
                      refine wM_skip rfl ?_
                      simp only [Act.put, List.setIfInBounds_toArray, List.set_cons_succ, List.set_cons_zero, Nat.reduceAdd]
                      refine wM_skip rfl ?_
                      simp only [Act.put, List.setIfInBounds_toArray, List.set_cons_succ, List.set_cons_zero, Nat.reduceAdd]
                      refine wM_skip rfl ?_
                      simp only [Act.put, List.setIfInBounds_toArray, List.set_cons_succ, List.set_cons_zero, Nat.reduceAdd]
                      refine wM_skip rfl ?_
                      simp only [Act.put, List.setIfInBounds_toArray, List.set_cons_succ, List.set_cons_zero, Nat.reduceAdd]
                      refine wM_skip rfl ?_
                      simp only [Act.put, List.setIfInBounds_toArray, List.set_cons_succ, List.set_cons_zero, Nat.reduceAdd]
                      refine wM_skip rfl ?_
                      simp only [Act.put, List.setIfInBounds_toArray, List.set_cons_succ, List.set_cons_zero, Nat.reduceAdd]
                      refine wM_skip rfl ?_
                      simp only [Act.put, List.setIfInBounds_toArray, List.set_cons_succ, List.set_cons_zero, Nat.reduceAdd]
                      refine wM_skip rfl ?_
                      simp only [Act.put, List.setIfInBounds_toArray, List.set_cons_succ, List.set_cons_zero, Nat.reduceAdd]
                      refine wM_skip rfl ?_
                      simp only [Act.put, List.setIfInBounds_toArray, List.set_cons_succ, List.set_cons_zero, Nat.reduceAdd]
                      refine wM_skip rfl ?_
                      simp only [Act.put, List.setIfInBounds_toArray, List.set_cons_succ, List.set_cons_zero, Nat.reduceAdd]
                      refine wM_skip rfl ?_
                      simp only [Act.put, List.setIfInBounds_toArray, List.set_cons_succ, List.set_cons_zero, Nat.reduceAdd]
                      refine wM_skip rfl ?_
                      simp only [Act.put, List.setIfInBounds_toArray, List.set_cons_succ, List.set_cons_zero, Nat.reduceAdd]
                      refine wM_skip rfl ?_
                      simp only [Act.put, List.setIfInBounds_toArray, List.set_cons_succ, List.set_cons_zero, Nat.reduceAdd]
                      refine wM_skip rfl ?_
                      simp only [Act.put, List.setIfInBounds_toArray, List.set_cons_succ, List.set_cons_zero, Nat.reduceAdd]
                      refine wM_skip rfl ?_
                      simp only [Act.put, List.setIfInBounds_toArray, List.set_cons_succ, List.set_cons_zero, Nat.reduceAdd]
                      refine wM_skip rfl ?_
                      simp only [Act.put, List.setIfInBounds_toArray, List.set_cons_succ, List.set_cons_zero, Nat.reduceAdd]
                      refine wM_skip rfl ?_
                      simp only [Act.put, List.setIfInBounds_toArray, List.set_cons_succ, List.set_cons_zero, Nat.reduceAdd]
                      refine wM_skip rfl ?_
                      simp only [Act.put, List.setIfInBounds_toArray, List.set_cons_succ, List.set_cons_zero, Nat.reduceAdd]
                      refine wM_skip rfl ?_
                      simp only [Act.put, List.setIfInBounds_toArray, List.set_cons_succ, List.set_cons_zero, Nat.reduceAdd]
                      refine wM_val ?urc58 rfl rfl Ext.refl (fun w' hD => ?hrc58) (fun phrc58 => ?nrc58)
                      case hrc58 =>
                        obtain ⟨d0, d1, d2, d3, d4, d5⟩ := FS.out w' hD.1
                        go_simp; rfl
                      simp only [Act.put, List.setIfInBounds_toArray, List.set_cons_succ, List.set_cons_zero, Nat.reduceAdd]
                      refine wM_val ?urc59 rfl rfl Ext.refl (fun w' hD => ?hrc59) (fun phrc59 => ?nrc59)
                      case hrc59 =>
                        obtain ⟨d0, d1, d2, d3, d4, d5⟩ := FS.out w' hD.1
                        go_simp; rfl
                      simp only [Act.put, List.setIfInBounds_toArray, List.set_cons_succ, List.set_cons_zero, Nat.reduceAdd]
                      refine wM_nil ?_
                      intro w9 hw9 hF9
                      clear hF9

                      go_wp2_with fail
                      go_meet
                      exact ⟨rfl, hw9⟩
                  case rest =>
                    obtain ⟨rfl, hcx⟩ := hcut
                    have hxN := hxc.trans hcx
                    clear hcx FS TRI
                    go_wp2
                    go_roundw
                    case rel => exact ⟨c + 1, hc1, by go_num, hxN⟩
                    case measure => simp [intOf]; omega
                · have hcNI : ¬ (c : Int) < (N : Int) := by omega
                  go_wp2
                  go_roundw
                  case rel => exact ⟨b + 1, hb1, by go_num, hxc⟩
                  case measure => simp [intOf]; omega
            · have hbNI : ¬ (b : Int) < (N : Int) := by omega
              go_wp2
              go_roundw
              case rel => exact ⟨a + 1, ha1, by go_num, hxb⟩
              case measure => simp [intOf]; omega
        · have haNI : ¬ (a : Int) < (N : Int) := by omega
          obtain ⟨w10, hw10⟩ : ∃ w10 : World, w10 = wr := ⟨_, rfl⟩
          subst hw10
          have h310 := hxr.trans hxa
          have HST10 := hid (HST.out.ext hxa)
          have G10 := hid (G0.out h310)
          clear HST hxa haNI ha HGV
          obtain ⟨c0, c1, c2, c3, c4⟩ := FX3.out w10 h310
          by_cases hb0 : f.bl.length = 0
          · have bl0 : ((f.bl.length : Int) == 0) = true := by rw [hb0]; rfl
            have hfin0 := G10.out.ext
            clear hb0
            go_wp2_with fail
            refine (awake_any w10).mono ?_
            rintro e w16 ⟨rfl, h16⟩
            have hfin := hfin0.trans h16
            go_wp2
            go_ret
            exact ⟨rfl, hfin⟩
          have bl0 : ((f.bl.length : Int) == 0) = false := by simpa using hb0
          have hbn : ¬ (f.bl.length : Int) = 0 := by omega
          obtain ⟨I, hI, hIlt⟩ : ∃ I : Nat, tu.tmod (f.bl.length : Int) = (I : Int) ∧ I < f.bl.length := by
            refine ⟨(tu.tmod (f.bl.length : Int)).toNat, ?_, ?_⟩
            · rw [Int.toNat_of_nonneg]; exact Int.tmod_nonneg _ htu.1
            · have h1 := Int.tmod_lt_of_pos tu (show (0 : Int) < f.bl.length by omega)
              have h2 : 0 ≤ tu.tmod (f.bl.length : Int) := Int.tmod_nonneg _ htu.1
              omega
          obtain ⟨b, hbg⟩ := get_of_lt f.bl I hIlt
          have hbl8 : f.bl.length ≤ 8 := HOK.out.bn
          have HBG := hid hbg
          have hbpl := HOK.out.bl b (mem_of_get hbg)
          obtain ⟨p, hp⟩ : ∃ p : Nat, b.pl = (p : Int) := ⟨b.pl.toNat, by omega⟩
          have hpN : p < N := by have := HNI.out; omega
          have hIltI : (I : Int) < (f.bl.length : Int) := by omega
          have hI0 : (0 : Int) ≤ (I : Int) := by omega
          clear hb0
          obtain ⟨Ap, kp, vp, rp, -⟩ := HST10.out.at_ hpN hpN
          rw [louR_len] at vp
          obtain ⟨xp, yp, eP, -⟩ := Ints.at_ rp (louR_get f (show 0 < N by omega))
          subst eP
          have HST10' := HST10
          have hps : b.pl.toNat = p := by omega
          have HPS := hid hps
          have HPB := hid hp
          clear hbg hps vp rp
          go_wp2
          go_loopw [15, 172] (fun s15 i172 wr => ∃ (y : Nat) (Y : Int) (pre : List Int) (A : Option Addr) (k : Nat), y ≤ 8 ∧ i172 = .int .i64 (y : Int) ∧ s15 = .slice A pre.length k ∧ GSt D F (D + 1) w wr (louF f I b Y) s xs ∧ FarSt wr Bf (Bf + 1) N (louR f N) N vs ∧ (wr.ownsRow (D + 1) 3 1 (.slice A pre.length k) pre.length (pre.map (.int .i64)) ∧ pre.length ≤ 8) ∧ (∀ x ∈ pre, ∃ z : Int, z ≤ (y : Int) ∧ x ∈ louL f p z) ∧ Bf < wr.heap.size) (fun _ i _ => 8 - (intOf i).toNat)
          case atStart => exact ⟨0, b.lo, [], none, 0, by omega, rfl, rfl, by rw [louF_self HBG.out]; exact G10.out, HST10.out, ⟨own_nil _ _ _ _, by simp⟩, fun x hx => (by cases hx), (Array.getElem?_eq_some_iff.1 HST10.out.1).1⟩
          case round =>
            obtain ⟨y, Y, pre, A, k, hy, rfl, rfl, hG, hFS, ⟨hO, hp8⟩, hpre, hBfl⟩ := hrel
            by_cases hy8 : y < 8
            · have hy8I : (y : Int) < 8 := by omega
              have hy1 : y + 1 ≤ 8 := hy8
              have hcs := hG.cells
              have eLn : (louF f I b Y).bl.length = f.bl.length := by unfold louF; simp
              rw [eLn] at hcs
              obtain ⟨c0, c1, c2, c3, c4⟩ := hcs
              obtain ⟨g, eg, z1, z2, fz, hG2, hg3, cur, hgb⟩ := hG.setLoud (louF_get HBG.out Y) (y : Int)
              rw [louF_again] at hG2
              have c3' := c3
              rw [eg] at c3'
              have fzz := fz (I * 3 + 2)
              have hS : BelS (fun n => n = g) wr (wr.setCell ⟨g, I * 3 + 2, none⟩ (.int .i64 (y : Int))) := BelS.setCell (S := fun n => n = g) (BelS.refl _ wr) _ _ rfl
              have hFS2 := hFS.keep hS (fun k e => by subst e; exact ⟨cur, _, hgb, by decide, by decide⟩)
              have hO2 := hS.own hO (fun k hk e => by subst e; exact own_ne hO hgb (by decide) hk)
              have hBf2 : Bf < (wr.setCell ⟨g, I * 3 + 2, none⟩ (.int .i64 (y : Int))).heap.size := (Array.getElem?_eq_some_iff.1 hFS2.1).1
              obtain ⟨w11, hw11⟩ : ∃ w11, wr.setCell ⟨g, I * 3 + 2, none⟩ (.int .i64 (y : Int)) = w11 := ⟨_, rfl⟩
              rw [hw11] at hG2 hFS2 hO2 hBf2
              have HG2 := hid hG2
              have HFS2 := hid hFS2
              have HO2 := hid hO2
              have HW11 := hid hw11
              have HEG := hid eg
              have HPRE := hid hpre
              clear hG hFS hO hpre c0 c1 c2 c4 fz hG2 hFS2 hO2 hw11 hS hgb eg c3
              go_upto_region 39 with fail
              rw [HW11.out]
              clear HW11 z1 z2 c3' fzz
              have hcs := HG2.out.cells
              rw [show (louF f I b (y : Int)).bl.length = f.bl.length from by unfold louF; simp] at hcs
              obtain ⟨c0, c1, c2, c3, c4⟩ := hcs
              have hfg := HG2.out.fg
              have evF : (s.val (louF f I b (y : Int))) = .agg #[.int .i64 f.pl, .int .i64 f.mi, .slice s.a1 f.tr.length s.c1, .slice s.a2 f.bl.length s.c2, .slice s.a3 f.ct.length s.c3] := by
                unfold Ads.val fval louF
                simp
              rw [evF] at hfg
              have hlF := louF_ok HOK.out HBG.out (y := (y : Int)) ⟨by omega, by omega⟩
              obtain ⟨e1, e2⟩ := louF_hears HOK.out HMF.out.ag HBG.out (y := (y : Int)) ⟨by omega, by omega⟩
              rw [HPS.out] at e2
              have K39 := hearsy_any _ (louF f I b (y : Int)) (I : Int) w11 hfg (ok_sized hlF)
              rw [e1, e2] at K39
              obtain ⟨LL, hLL⟩ : ∃ LL, louL f p (y : Int) = LL := ⟨_, rfl⟩
              rw [hLL] at K39
              have HK39 := hid K39
              have HLL := hid hLL
              clear K39 e1 e2 hfg evF hLL hlF
              go_wp2_with fail
              refine HK39.out.mono ?_
              clear HK39 c0 c1 c2 c3 c4
              rintro e w12 ⟨r, rfl, h12, -, A2, k2, rfl, hO12⟩
              have hL8 : LL.length ≤ 8 := by
                rw [← HLL.out]
                unfold louL natI
                rw [List.length_map]
                have := List.length_filter_le (fun q => decide (farM f p q ≤ (y : Int))) (List.range f.pl.toNat)
                rw [List.length_range] at this
                omega
              obtain ⟨X, hX⟩ : ∃ X, w12.heap.size = X := ⟨_, rfl⟩
              obtain ⟨w13, hw13⟩ : ∃ w13, w12.alloc (.cells #[.slice A2 LL.length k2] 38) = w13 := ⟨_, rfl⟩
              have h13 : Ext w12 w13 := by rw [← hw13]; exact Ext.alloc (Ext.refl _) _
              have hx13 : w13.cell? ⟨X, 0, none⟩ = some (.slice A2 LL.length k2) := by rw [← hw13, ← hX]; simp [go_sem]
              have h113 := h12.trans h13
              have hG13 := HG2.out.out h113
              have hFS13 := HFS2.out.ext h113
              have hO13 := own_below hO12 h13
              have hOp13 := own_below HO2.out h113
              have HG13 := hid hG13
              have HFS13 := hid hFS13
              have HO13 := hid hO13
              have HOp13 := hid hOp13
              have HX13 := hid hx13
              have HW13 := hid hw13
              have HX := hid hX
              have hwD : D + 1 ≤ w11.heap.size := by have := HG2.out.hp.lt; omega
              clear hw13 hX hx13 hG13 hFS13 hO13 hOp13 h12 h13 hO12
              go_upto_region 40 with fail
              rw [HW13.out, HX.out]
              clear HW13 HX
              have hany : (pre.any fun x => !memI x LL) = false := by
                rw [List.any_eq_false]
                intro x hx
                obtain ⟨z, hz, hm⟩ := HPRE.out x hx
                rw [← HLL.out, lou_more hz x hm]; decide
              have K40 := containsFunc_int A k pre _ anyx (fun x => !memI x LL) w13 (Rd.of_own HOp13.out) (by omega) (anyx_all _) (llou1_fn w13 X A2 k2 LL (by omega) HX13.out (Rd.of_own HO13.out))
              rw [hany] at K40
              have HK40 := hid K40
              clear K40 hany
              go_wp2_with fail
              refine HK40.out.mono ?_
              clear HK40
              rintro e w14 ⟨rfl, h14⟩
              have HG14 := hid (HG13.out.out h14)
              have HFS14 := hid (HFS13.out.ext h14)
              have HO14 := hid (own_below HO13.out h14)
              have HX14 := hid (h14.cell HX13.out)
              clear HG13 HFS13 HO13 HOp13 HX13
              obtain ⟨Ap, kp, vp, rp, -⟩ := HFS14.out.at_ hpN hpN
              rw [louR_len] at vp
              obtain ⟨xp, yp, eP, -⟩ := Ints.at_ rp (louR_get f (show 0 < N by omega))
              subst eP
              have RP : Hid (∀ c, c < N → ∀ w', Ext w14 w' → w'.cell? ⟨xp, yp + c, none⟩ = some (.int .i64 (louV f p c))) := fun c hc w' h => by
                obtain ⟨x, y, e1, e2⟩ := Ints.at_ rp (louR_get f hc)
                cases e1
                exact h.cell e2
              have VP : Hid (∀ w', Ext w14 w' → w'.cell? ⟨Bf, p, none⟩ = some (.slice (some ⟨xp, yp, none⟩) N kp)) := fun w' h => h.cell vp
              clear vp rp
              go_wp2
              go_loopw [196] (fun i196 wr => ∃ c : Nat, c ≤ N ∧ i196 = .int .i64 (c : Int) ∧ Ext w14 wr) (fun i _ => N - (intOf i).toNat)
              case atStart => exact ⟨0, Nat.zero_le _, rfl, Ext.refl _⟩
              case round =>
                obtain ⟨c, hc, rfl, hxc⟩ := hrel
                by_cases hcN : c < N
                · have hcNI : (c : Int) < (N : Int) := by omega
                  have hc1 : c + 1 ≤ N := hcN
                  have hG := HG14.out.out hxc
                  have hcs := hG.cells
                  rw [show (louF f I b (y : Int)).bl.length = f.bl.length from by unfold louF; simp] at hcs
                  obtain ⟨c0, c1, c2, c3, c4⟩ := hcs
                  obtain ⟨g, eg, -, z2, -, -, -, -⟩ := hG.setLoud (louF_get HBG.out (y : Int)) (y : Int)
                  rw [HEG.out] at eg
                  cases eg
                  dsimp only at z2
                  rw [HPB.out] at z2
                  rw [HEG.out] at c3
                  have v1 := RP.out c hcN wr hxc
                  have v2 := VP.out wr hxc
                  have xc := hxc.cell HX14.out
                  have hlm := lou_mem (f := f) (p := p) (q := c) (y := (y : Int)) (by have := HNN.out; omega) (by omega)
                  rw [HLL.out] at hlm
                  obtain ⟨LV, hLV⟩ : ∃ LV, louV f p c = LV := ⟨_, rfl⟩
                  rw [hLV] at v1 hlm
                  obtain ⟨BM, hBM⟩ : ∃ BM, memI (c : Int) LL = BM := ⟨_, rfl⟩
                  rw [hBM] at hlm
                  have K45 := containsI_any (c : Int) A2 k2 LL wr (Rd.of_own (own_below HO14.out hxc)) (by omega)
                  rw [hBM] at K45
                  have FS : Hid (∀ w', Ext wr w' → w'.cell? ⟨F, 3, none⟩ = some (.slice (some ⟨g, 0, none⟩) f.bl.length s.c2) ∧ w'.cell? ⟨g, I * 3 + 1, none⟩ = some (.int .i64 (p : Int)) ∧ w'.cell? ⟨xp, yp + c, none⟩ = some (.int .i64 LV) ∧ w'.cell? ⟨Bf, p, none⟩ = some (.slice (some ⟨xp, yp, none⟩) N kp) ∧ w'.cell? ⟨X, 0, none⟩ = some (.slice A2 LL.length k2)) := fun w' h => ⟨h.cell c3, h.cell z2, h.cell v1, h.cell v2, h.cell xc⟩
                  have HK : Hid (∀ w', Ext wr w' → Calls Try.prog 12 #[.slice A2 LL.length k2, .int .i64 (c : Int)] w' fun e w2 => e = .returned (.bool BM) ∧ Ext w' w2) := fun w' h => by
                    have K := containsI_any (c : Int) A2 k2 LL w' (Rd.of_own (own_below HO14.out (hxc.trans h))) (by omega)
                    rw [hBM] at K
                    exact K.mono fun e w2 ⟨e1, e2⟩ => ⟨e1, e2 ▸ Ext.refl _⟩
                  have hpNI : (p : Int) < (N : Int) := by omega
                  have hp0 : (0 : Int) ≤ (p : Int) := by omega
                  have HLM := hid hlm
                  clear hG c0 c1 c2 c4 hlm hLV hBM K45 c3 z2 v1 v2 xc
                  go_wp2
                  go_upto_region 45 with fail
                  go_cut [216] (fun s216 wx => s216 = .bool false ∧ Ext wr wx)
                  case first =>
                    by_cases hly : LV ≤ (y : Int)
                    · obtain rfl : BM = true := by have := HLM.out; rw [this]; simpa using hly
                      clear HLM
                      refine wp_region_shut Ext (fun w' => Ext wr w') (fun
                        | 2 => some (fun v w' => v = .bool true)
                        | _ => none) (by kernel_rfl) (by kernel_rfl) (fun _ _ h k => h.trans k) ?hTrd (Ext.drew (Ext.refl wr)) ?_
                      case hTrd =>
                        intro i R hR
                        match i, hR with
                        | 2, hR => cases hR; exact fun _ _ _ h _ => h
                      refine wM_val ?urd0 rfl rfl Ext.refl (fun w' hD => ?hrd0) (fun phrd0 => ?nrd0)
                      case hrd0 =>
                        obtain ⟨d0, d1, d2, d3, d4⟩ := FS.out w' hD.1
                        go_simp; rfl
                      simp only [Act.put, List.setIfInBounds_toArray, List.set_cons_succ, List.set_cons_zero, Nat.reduceAdd]
                      refine wM_val ?urd1 rfl rfl Ext.refl (fun w' hD => ?hrd1) (fun phrd1 => ?nrd1)
                      case hrd1 =>
                        obtain ⟨d0, d1, d2, d3, d4⟩ := FS.out w' hD.1
                        go_simp; rfl
                      simp only [Act.put, List.setIfInBounds_toArray, List.set_cons_succ, List.set_cons_zero, Nat.reduceAdd]
                      refine wM_op _ rfl rfl (opens_call ?frd2 ?grd2 (fun w' hD => ?hrd2) (fun w' hD => ?crd2)) (fun v2 hv2 => ?nrd2)
                      case hrd2 => go_simp; constructor <;> rfl
                      case crd2 =>
                        refine (HK.out w' hD.1).mono ?_
                        rintro e w2 ⟨rfl, hb⟩
                        exact ⟨_, rfl, hb, rfl⟩
                      obtain ⟨_, -, -, rfl⟩ := hv2
                      simp only [Act.put, List.setIfInBounds_toArray, List.set_cons_succ, List.set_cons_zero, Nat.reduceAdd]
                      refine wM_val ?urd3 rfl rfl Ext.refl (fun w' hD => ?hrd3) (fun phrd3 => ?nrd3)
                      case hrd3 =>
                        obtain ⟨d0, d1, d2, d3, d4⟩ := FS.out w' hD.1
                        go_simp; rfl
                      simp only [Act.put, List.setIfInBounds_toArray, List.set_cons_succ, List.set_cons_zero, Nat.reduceAdd]
                      refine wM_val ?urd4 rfl rfl Ext.refl (fun w' hD => ?hrd4) (fun phrd4 => ?nrd4)
                      case hrd4 =>
                        obtain ⟨d0, d1, d2, d3, d4⟩ := FS.out w' hD.1
                        go_simp; rfl
                      simp only [Act.put, List.setIfInBounds_toArray, List.set_cons_succ, List.set_cons_zero, Nat.reduceAdd]
                      refine wM_val ?urd5 rfl rfl Ext.refl (fun w' hD => ?hrd5) (fun phrd5 => ?nrd5)
                      case hrd5 =>
                        obtain ⟨d0, d1, d2, d3, d4⟩ := FS.out w' hD.1
                        go_simp; rfl
                      simp only [Act.put, List.setIfInBounds_toArray, List.set_cons_succ, List.set_cons_zero, Nat.reduceAdd]
                      refine wM_val ?urd6 rfl rfl Ext.refl (fun w' hD => ?hrd6) (fun phrd6 => ?nrd6)
                      case hrd6 =>
                        obtain ⟨d0, d1, d2, d3, d4⟩ := FS.out w' hD.1
                        go_simp; rfl
                      simp only [Act.put, List.setIfInBounds_toArray, List.set_cons_succ, List.set_cons_zero, Nat.reduceAdd]
                      refine wM_val ?urd7 rfl rfl Ext.refl (fun w' hD => ?hrd7) (fun phrd7 => ?nrd7)
                      case hrd7 =>
                        obtain ⟨d0, d1, d2, d3, d4⟩ := FS.out w' hD.1
                        go_simp; rfl
                      simp only [Act.put, List.setIfInBounds_toArray, List.set_cons_succ, List.set_cons_zero, Nat.reduceAdd]
                      refine wM_val ?urd8 rfl rfl Ext.refl (fun w' hD => ?hrd8) (fun phrd8 => ?nrd8)
                      case hrd8 =>
                        obtain ⟨d0, d1, d2, d3, d4⟩ := FS.out w' hD.1
                        go_simp; rfl
                      simp only [Act.put, List.setIfInBounds_toArray, List.set_cons_succ, List.set_cons_zero, Nat.reduceAdd]
                      refine wM_val ?urd9 rfl rfl Ext.refl (fun w' hD => ?hrd9) (fun phrd9 => ?nrd9)
                      case hrd9 =>
                        obtain ⟨d0, d1, d2, d3, d4⟩ := FS.out w' hD.1
                        go_simp; rfl
                      simp only [Act.put, List.setIfInBounds_toArray, List.set_cons_succ, List.set_cons_zero, Nat.reduceAdd]
                      refine wM_val ?urd10 rfl rfl Ext.refl (fun w' hD => ?hrd10) (fun phrd10 => ?nrd10)
                      case hrd10 =>
                        obtain ⟨d0, d1, d2, d3, d4⟩ := FS.out w' hD.1
                        go_simp; rfl
                      simp only [Act.put, List.setIfInBounds_toArray, List.set_cons_succ, List.set_cons_zero, Nat.reduceAdd]
                      refine wM_val ?urd11 rfl rfl Ext.refl (fun w' hD => ?hrd11) (fun phrd11 => ?nrd11)
                      case hrd11 =>
                        obtain ⟨d0, d1, d2, d3, d4⟩ := FS.out w' hD.1
                        go_simp; rfl
                      simp only [Act.put, List.setIfInBounds_toArray, List.set_cons_succ, List.set_cons_zero, Nat.reduceAdd]
                      refine wM_val ?urd12 rfl rfl Ext.refl (fun w' hD => ?hrd12) (fun phrd12 => ?nrd12)
                      case hrd12 =>
                        obtain ⟨d0, d1, d2, d3, d4⟩ := FS.out w' hD.1
                        go_simp; rfl
                      simp only [Act.put, List.setIfInBounds_toArray, List.set_cons_succ, List.set_cons_zero, Nat.reduceAdd]
                      refine wM_val ?urd13 rfl rfl Ext.refl (fun w' hD => ?hrd13) (fun phrd13 => ?nrd13)
                      case hrd13 =>
                        obtain ⟨d0, d1, d2, d3, d4⟩ := FS.out w' hD.1
                        go_simp; rfl
                      simp only [Act.put, List.setIfInBounds_toArray, List.set_cons_succ, List.set_cons_zero, Nat.reduceAdd]
                      refine wM_val ?urd14 rfl rfl Ext.refl (fun w' hD => ?hrd14) (fun phrd14 => ?nrd14)
                      case hrd14 =>
                        obtain ⟨d0, d1, d2, d3, d4⟩ := FS.out w' hD.1
                        go_simp; rfl
                      simp only [Act.put, List.setIfInBounds_toArray, List.set_cons_succ, List.set_cons_zero, Nat.reduceAdd]
                      refine wM_val ?urd15 rfl rfl Ext.refl (fun w' hD => ?hrd15) (fun phrd15 => ?nrd15)
                      case hrd15 =>
                        obtain ⟨d0, d1, d2, d3, d4⟩ := FS.out w' hD.1
                        go_simp; rfl
                      simp only [Act.put, List.setIfInBounds_toArray, List.set_cons_succ, List.set_cons_zero, Nat.reduceAdd]
                      refine wM_val ?urd16 rfl rfl Ext.refl (fun w' hD => ?hrd16) (fun phrd16 => ?nrd16)
                      case hrd16 =>
                        obtain ⟨d0, d1, d2, d3, d4⟩ := FS.out w' hD.1
                        go_simp; rfl
                      simp only [Act.put, List.setIfInBounds_toArray, List.set_cons_succ, List.set_cons_zero, Nat.reduceAdd]
                      refine wM_val ?urd17 rfl rfl Ext.refl (fun w' hD => ?hrd17) (fun phrd17 => ?nrd17)
                      case hrd17 =>
                        obtain ⟨d0, d1, d2, d3, d4⟩ := FS.out w' hD.1
                        go_simp; rfl
                      simp only [Act.put, List.setIfInBounds_toArray, List.set_cons_succ, List.set_cons_zero, Nat.reduceAdd]
                      refine wM_nil ?_
                      intro w9 hw9 hF9
                      clear hF9

                      go_wp2_with fail
                      go_meet
                      exact ⟨rfl, hw9⟩
                    · obtain rfl : BM = false := by have := HLM.out; rw [this]; simpa using hly
                      clear HLM
                      refine wp_region_shut Ext (fun w' => Ext wr w') (fun
                        | 2 => some (fun v w' => v = .bool false)
                        | _ => none) (by kernel_rfl) (by kernel_rfl) (fun _ _ h k => h.trans k) ?hTre (Ext.drew (Ext.refl wr)) ?_
                      case hTre =>
                        intro i R hR
                        match i, hR with
                        | 2, hR => cases hR; exact fun _ _ _ h _ => h
                      refine wM_val ?ure0 rfl rfl Ext.refl (fun w' hD => ?hre0) (fun phre0 => ?nre0)
                      case hre0 =>
                        obtain ⟨d0, d1, d2, d3, d4⟩ := FS.out w' hD.1
                        go_simp; rfl
                      simp only [Act.put, List.setIfInBounds_toArray, List.set_cons_succ, List.set_cons_zero, Nat.reduceAdd]
                      refine wM_val ?ure1 rfl rfl Ext.refl (fun w' hD => ?hre1) (fun phre1 => ?nre1)
                      case hre1 =>
                        obtain ⟨d0, d1, d2, d3, d4⟩ := FS.out w' hD.1
                        go_simp; rfl
                      simp only [Act.put, List.setIfInBounds_toArray, List.set_cons_succ, List.set_cons_zero, Nat.reduceAdd]
                      refine wM_op _ rfl rfl (opens_call ?fre2 ?gre2 (fun w' hD => ?hre2) (fun w' hD => ?cre2)) (fun v2 hv2 => ?nre2)
                      case hre2 => go_simp; constructor <;> rfl
                      case cre2 =>
                        refine (HK.out w' hD.1).mono ?_
                        rintro e w2 ⟨rfl, hb⟩
                        exact ⟨_, rfl, hb, rfl⟩
                      obtain ⟨_, -, -, rfl⟩ := hv2
                      simp only [Act.put, List.setIfInBounds_toArray, List.set_cons_succ, List.set_cons_zero, Nat.reduceAdd]
                      refine wM_val ?ure3 rfl rfl Ext.refl (fun w' hD => ?hre3) (fun phre3 => ?nre3)
                      case hre3 =>
                        obtain ⟨d0, d1, d2, d3, d4⟩ := FS.out w' hD.1
                        go_simp; rfl
                      simp only [Act.put, List.setIfInBounds_toArray, List.set_cons_succ, List.set_cons_zero, Nat.reduceAdd]
                      refine wM_val ?ure4 rfl rfl Ext.refl (fun w' hD => ?hre4) (fun phre4 => ?nre4)
                      case hre4 =>
                        obtain ⟨d0, d1, d2, d3, d4⟩ := FS.out w' hD.1
                        go_simp; rfl
                      simp only [Act.put, List.setIfInBounds_toArray, List.set_cons_succ, List.set_cons_zero, Nat.reduceAdd]
                      refine wM_val ?ure5 rfl rfl Ext.refl (fun w' hD => ?hre5) (fun phre5 => ?nre5)
                      case hre5 =>
                        obtain ⟨d0, d1, d2, d3, d4⟩ := FS.out w' hD.1
                        go_simp; rfl
                      simp only [Act.put, List.setIfInBounds_toArray, List.set_cons_succ, List.set_cons_zero, Nat.reduceAdd]
                      refine wM_val ?ure6 rfl rfl Ext.refl (fun w' hD => ?hre6) (fun phre6 => ?nre6)
                      case hre6 =>
                        obtain ⟨d0, d1, d2, d3, d4⟩ := FS.out w' hD.1
                        go_simp; rfl
                      simp only [Act.put, List.setIfInBounds_toArray, List.set_cons_succ, List.set_cons_zero, Nat.reduceAdd]
                      refine wM_val ?ure7 rfl rfl Ext.refl (fun w' hD => ?hre7) (fun phre7 => ?nre7)
                      case hre7 =>
                        obtain ⟨d0, d1, d2, d3, d4⟩ := FS.out w' hD.1
                        go_simp; rfl
                      simp only [Act.put, List.setIfInBounds_toArray, List.set_cons_succ, List.set_cons_zero, Nat.reduceAdd]
                      refine wM_val ?ure8 rfl rfl Ext.refl (fun w' hD => ?hre8) (fun phre8 => ?nre8)
                      case hre8 =>
                        obtain ⟨d0, d1, d2, d3, d4⟩ := FS.out w' hD.1
                        go_simp; rfl
                      simp only [Act.put, List.setIfInBounds_toArray, List.set_cons_succ, List.set_cons_zero, Nat.reduceAdd]
                      refine wM_val ?ure9 rfl rfl Ext.refl (fun w' hD => ?hre9) (fun phre9 => ?nre9)
                      case hre9 =>
                        obtain ⟨d0, d1, d2, d3, d4⟩ := FS.out w' hD.1
                        go_simp; rfl
                      simp only [Act.put, List.setIfInBounds_toArray, List.set_cons_succ, List.set_cons_zero, Nat.reduceAdd]
                      refine wM_val ?ure10 rfl rfl Ext.refl (fun w' hD => ?hre10) (fun phre10 => ?nre10)
                      case hre10 =>
                        obtain ⟨d0, d1, d2, d3, d4⟩ := FS.out w' hD.1
                        go_simp; rfl
                      simp only [Act.put, List.setIfInBounds_toArray, List.set_cons_succ, List.set_cons_zero, Nat.reduceAdd]
                      refine wM_val ?ure11 rfl rfl Ext.refl (fun w' hD => ?hre11) (fun phre11 => ?nre11)
                      case hre11 =>
                        obtain ⟨d0, d1, d2, d3, d4⟩ := FS.out w' hD.1
                        go_simp; rfl
                      simp only [Act.put, List.setIfInBounds_toArray, List.set_cons_succ, List.set_cons_zero, Nat.reduceAdd]
                      refine wM_val ?ure12 rfl rfl Ext.refl (fun w' hD => ?hre12) (fun phre12 => ?nre12)
                      case hre12 =>
                        obtain ⟨d0, d1, d2, d3, d4⟩ := FS.out w' hD.1
                        go_simp; rfl
                      simp only [Act.put, List.setIfInBounds_toArray, List.set_cons_succ, List.set_cons_zero, Nat.reduceAdd]
                      refine wM_val ?ure13 rfl rfl Ext.refl (fun w' hD => ?hre13) (fun phre13 => ?nre13)
                      case hre13 =>
                        obtain ⟨d0, d1, d2, d3, d4⟩ := FS.out w' hD.1
                        go_simp; rfl
                      simp only [Act.put, List.setIfInBounds_toArray, List.set_cons_succ, List.set_cons_zero, Nat.reduceAdd]
                      refine wM_val ?ure14 rfl rfl Ext.refl (fun w' hD => ?hre14) (fun phre14 => ?nre14)
                      case hre14 =>
                        obtain ⟨d0, d1, d2, d3, d4⟩ := FS.out w' hD.1
                        go_simp; rfl
                      simp only [Act.put, List.setIfInBounds_toArray, List.set_cons_succ, List.set_cons_zero, Nat.reduceAdd]
                      refine wM_val ?ure15 rfl rfl Ext.refl (fun w' hD => ?hre15) (fun phre15 => ?nre15)
                      case hre15 =>
                        obtain ⟨d0, d1, d2, d3, d4⟩ := FS.out w' hD.1
                        go_simp; rfl
                      simp only [Act.put, List.setIfInBounds_toArray, List.set_cons_succ, List.set_cons_zero, Nat.reduceAdd]
                      refine wM_val ?ure16 rfl rfl Ext.refl (fun w' hD => ?hre16) (fun phre16 => ?nre16)
                      case hre16 =>
                        obtain ⟨d0, d1, d2, d3, d4⟩ := FS.out w' hD.1
                        go_simp; rfl
                      simp only [Act.put, List.setIfInBounds_toArray, List.set_cons_succ, List.set_cons_zero, Nat.reduceAdd]
                      refine wM_val ?ure17 rfl rfl Ext.refl (fun w' hD => ?hre17) (fun phre17 => ?nre17)
                      case hre17 =>
                        obtain ⟨d0, d1, d2, d3, d4⟩ := FS.out w' hD.1
                        go_simp; rfl
                      simp only [Act.put, List.setIfInBounds_toArray, List.set_cons_succ, List.set_cons_zero, Nat.reduceAdd]
                      refine wM_nil ?_
                      intro w9 hw9 hF9
                      clear hF9

                      go_wp2_with fail
                      go_meet
                      exact ⟨rfl, hw9⟩
                  case rest =>
                    obtain ⟨rfl, hcx⟩ := hcut
                    have hxN := hxc.trans hcx
                    clear hcx FS HK HLM
                    go_wp2
                    go_roundw
                    case rel => exact ⟨c + 1, hc1, by go_num, hxN⟩
                    case measure => simp [intOf]; omega
                · have hcNI : ¬ (c : Int) < (N : Int) := by omega
                  have hG := HG14.out.out hxc
                  have hFS := HFS14.out.ext hxc
                  have hO := own_below HO14.out hxc
                  have xc := hxc.cell HX14.out
                  have hPN : ∀ x ∈ LL, ∃ z : Int, z ≤ ((y + 1 : Nat) : Int) ∧ x ∈ louL f p z := fun x hx => ⟨(y : Int), by omega, by rw [HLL.out]; exact hx⟩
                  have hBfN := (Array.getElem?_eq_some_iff.1 hFS.1).1
                  have HGN := hid hG
                  have HFN := hid hFS
                  have HON := hid (own_base hO hwD)
                  have HPN := hid hPN
                  clear hG hFS hO hPN
                  go_wp2
                  go_roundw
                  case rel => exact ⟨y + 1, (y : Int), LL, A2, k2, hy1, by go_num, rfl, HGN.out, HFN.out, ⟨HON.out, hL8⟩, HPN.out, hBfN⟩
                  case measure => simp [intOf]; omega

            · obtain rfl : y = 8 := by omega
              have hfin0 := hG.ext
              clear hG hFS hO hpre
              go_wp2_with fail
              refine (awake_any wr).mono ?_
              rintro e w16 ⟨rfl, h16⟩
              have hfin := hfin0.trans h16
              go_wp2
              go_ret
              exact ⟨rfl, hfin⟩
end Go.Proofs.Ytlonpgbapiemcaa
