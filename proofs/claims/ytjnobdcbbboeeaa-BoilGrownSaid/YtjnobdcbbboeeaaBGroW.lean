/- The walk of BoilGrown. Printed by my gen_bgrow.py. -/
import Derived.Test.YtjnobdcbbboeeaaBOwnL
import Derived.Test.YtjnobdcbbboeeaaBTrs
import Derived.Test.YtjnobdcbbboeeaaHa
import Derived.Test.YtjnobdcbbboeeaaBGroQ
import Derived.Test.YtjnobdcbbboeeaaBCon
import Derived.OwnWalk
import Derived.Deep.DeepCutAuto
import Derived.Deep.CutBlock
import Derived.Deep.QuietTactic
import Derived.Deep.RegionHeld3
import Derived.BigQuiet
namespace Go.Proofs.Ytjnobdcbbboeeaa
open Go Go.RowKit Go.Shelf
set_option linter.unusedVariables false
set_option linter.unusedSimpArgs false

theorem wg_rows_wide (l : List Wg) : ∀ (i : Nat) (x : Wg) (a1 a2 : Int), l[i]? = some x → ((layWg.rows l).set (i * 5 + 3) (.int .i64 a1)).set (i * 5 + 2) (.int .i64 a2) = layWg.rows (l.set i { x with ml := a1, sh := a2 }) := by
  induction l with
  | nil => intro i x a1 a2 h; simp at h
  | cons y l ih =>
    intro i x a1 a2 h
    cases i with
    | zero =>
      simp at h; subst h
      simp [Lay.rows, layWg]
    | succ i =>
      have := ih i x a1 a2 (by simpa using h)
      simp only [Lay.rows, List.flatMap_cons, List.set_cons_succ] at this ⊢
      rw [← this]
      have e : (i + 1) * 5 + 3 = (i * 5 + 3) + 5 := by omega
      have e2 : (i + 1) * 5 + 2 = (i * 5 + 2) + 5 := by omega
      rw [e, e2]
      simp [layWg]
theorem contf_any (L : List Int) (A : Option Addr) (c B : Nat) (x : Int) (w : World) (hA : Ints w A L) (hl : L.length ≤ 1000000) (hc : w.cell? ⟨B, 0, none⟩ = some (.slice A L.length c)) :
    Calls Try.prog 55 #[.int .i64 x, .pointer (some ⟨B, 0, none⟩)] w fun e w' => e = .returned (.bool (memI x L)) ∧ Ext w w' := by
  have KC := hid (containsI_any x A c L w hA (by omega))
  obtain ⟨n, hn⟩ : ∃ n : Nat, L.length = n := ⟨_, rfl⟩
  rw [hn] at hc KC
  clear hn
  go_enter Try.func55, Try.ntmps55
  go_wp2_with fail
  refine KC.out.mono ?_
  rintro e w1 ⟨rfl, rfl⟩
  go_wp2
  go_ret
  exact ⟨rfl, Ext.refl _⟩
set_option maxRecDepth 100000 in
set_option maxHeartbeats 16000000 in
theorem boilgrown_any (A : Option Addr) (l : List Int) (cap : Nat) (a : Int) (b : Int) (w : World) (hA : Bytes w A l) (hl : ∀ x ∈ l, 0 ≤ x ∧ x ≤ 255) (hlt : ∀ x, A = some x → l = [] ∨ x.block < w.heap.size) (hn : l.length ≤ 9223372036854775807) (ha : 0 ≤ a ∧ a ≤ 255) (hb : 0 ≤ b ∧ b ≤ 255) :
    Calls Try.prog 9 #[.slice A l.length cap, .int .u8 a, .int .u8 b] w fun e w' => e = .returned (.bool true) ∧ Below w.heap.size w w' := by
  obtain ⟨a, rfl⟩ : ∃ n : Nat, a = n := ⟨a.toNat, by omega⟩
  obtain ⟨b, rfl⟩ : ∃ n : Nat, b = n := ⟨b.toNat, by omega⟩
  go_enter Try.func9, Try.ntmps9
  go_wp2_with fail
  refine (pile_any A l cap w hA hl hlt hn).mono ?_
  rintro e w1 ⟨D, rfl, hD, x1, hh1⟩
  go_wp2_with fail
  refine (made_any D 10 11 3 w1 hh1 (by decide) (by decide) (by decide) (by decide)).mono ?_
  rintro e w2 ⟨h, rl, Ah, ch, A2, c2, rfl, HM, hoh, hor, hb2, -⟩
  have x2 : Ext w w2 := Bel.extw x1 hb2 hD
  have k := HM.ok
  have HMD := hid HM
  have hr2 : HsR w2 (hval h Ah ch) h := hsr_own hoh
  have hOR := hid hor
  clear hoh hor hb2 hh1 x1 HM
  unfold hval
  go_upto_region 2 with fail
  obtain ⟨P2, hP2⟩ : ∃ P2, w2.alloc (.cells #[.int .i64 h.mo, .int .i64 h.pk, .slice Ah h.ws.length ch] 25) = P2 := ⟨_, rfl⟩
  have xp : Ext w2 P2 := by rw [← hP2]; exact Ext.alloc (Ext.refl _) _
  have bp : P2.heap[w2.heap.size]? = some (.cells #[.int .i64 h.mo, .int .i64 h.pk, .slice Ah h.ws.length ch] 25 (0, 0)) := by rw [← hP2]; exact heap_alloc_new _ _
  try rw [hP2]
  clear hP2
  have hx2 : Ext w P2 := x2.trans xp
  have FH : Hid (∀ w', Ext P2 w' → w'.cell? ⟨w2.heap.size, 0, none⟩ = some (.int .i64 h.mo) ∧ w'.cell? ⟨w2.heap.size, 1, none⟩ = some (.int .i64 h.pk) ∧ w'.cell? ⟨w2.heap.size, 2, none⟩ = some (.slice Ah h.ws.length ch)) := fun w' hx => by
    obtain ⟨q0, q1, q2, -⟩ := house_cells bp
    exact ⟨hx.cell q0, hx.cell q1, hx.cell q2⟩
  have HR : Hid (∀ w', Ext P2 w' → HsR w' (hval h Ah ch) h) := fun w' hx => (hr2.ext xp).ext hx
  have hs : h.sized := by unfold Hs.sized; have := k.len; omega
  have HK := hid k
  have hmo := k.mo
  have hpk := k.pk
  have hlen := k.len
  have hmz : h.mo ≠ 0 := by omega
  clear k bp hr2 x2 xp
  obtain ⟨N, hN⟩ : ∃ N : Nat, h.ws.length = N := ⟨_, rfl⟩
  have HN := hid hN
  rw [hN] at FH hlen ⊢
  clear hN
  have hck : checkH h = 0 := checkH_of HK.out
  have hfv : fewV h = fewH h := by unfold fewV; rw [hck, if_neg (by simp)]
  have KF := hid (fewest_any _ h P2 (HR.out P2 (Ext.refl _)) hs)
  rw [hfv, show fewE h = 0 from hck] at KF
  obtain ⟨Lf, hLf⟩ : ∃ L, fewH h = L := ⟨_, rfl⟩
  have HLF := hid hLf
  rw [hLf] at KF
  have hl1 : Lf.length ≤ 14 := by
    rw [← hLf]
    have := small_room HK.out
    have := (few_is HK.out).2.2.2.2.1
    omega
  unfold hval at KF
  rw [HN.out] at KF
  clear hfv hLf
  obtain ⟨c0, c1, c2'⟩ := FH.out P2 (Ext.refl _)
  go_wp2_with fail
  refine KF.out.mono ?_
  rintro e w3 ⟨A1, k1, rfl, hx3, i1⟩
  clear KF c0 c1 c2'
  obtain ⟨c0, c1, c2'⟩ := FH.out w3 hx3
  by_cases hN0 : N = 0
  · have hLn : Lf = [] := by
      rw [← HLF.out]
      cases e : fewH h with
      | nil => rfl
      | cons y t =>
        have := (few_cov HK.out).2.1 y (by rw [e]; exact List.mem_cons_self)
        rw [HN.out] at this
        omega
    subst hLn
    subst hN0
    go_wp2_with fail
    refine (awake_any w3).mono ?_
    rintro e w4 ⟨rfl, hx4⟩
    go_wp2
    go_ret
    exact ⟨rfl, hx2.trans (hx3.trans hx4)⟩
  have hNp : 0 < N := by omega
  have hNz : ¬ ((N : Int) = 0) := by omega
  have hNz' : (N : Int) ≠ 0 := hNz
  have hNb : ((N : Int) == 0) = false := by simpa using hNz
  clear hN0
  go_upto_region 8 with fail
  obtain ⟨n0, hn0⟩ : ∃ X, (a : Int) % (N : Int) = X := ⟨_, rfl⟩
  have hnr : 0 ≤ n0 ∧ n0 < (N : Int) := by rw [← hn0]; exact ⟨Int.emod_nonneg _ hNz, Int.emod_lt_of_pos _ (by omega)⟩
  try rw [hn0]
  clear hn0
  obtain ⟨n, rfl⟩ : ∃ n : Nat, n0 = n := ⟨n0.toNat, by omega⟩
  have hnN : n < N := by omega
  have hnh : n < h.ws.length := by rw [HN.out]; exact hnN
  obtain ⟨wt1, wt2⟩ := wth_one HK.out hnh
  obtain ⟨gle, gge, gin, gtr⟩ := grown_ok HK.out hnh
  have KLO := hid (less_ok HK.out n)
  have hll : (lessH1 h n).ws.length = N - 1 := by rw [less_len hnh, HN.out]
  obtain ⟨LS, hLS⟩ : ∃ LS, lessH1 h n = LS := ⟨_, rfl⟩
  rw [hLS] at wt2 gle gge gin gtr KLO hll
  have hckl : checkH LS = 0 := checkH_of KLO.out
  have HLL := hid hll
  have HCKL := hid hckl
  have HLS2 := hid hLS
  clear hll hckl hLS hck
  have KW := hid (without_any _ h _ (HR.out _ (hx3.trans (Ext.alloc (Ext.refl w3) (.cells #[.int .i64 (n : Int)] 3)))) hs (some ⟨w3.heap.size, 0, none⟩) 1 [(n : Int)] (rd_newW w3 [.int .i64 (n : Int)] _ _ rfl) (by simp))
  rw [wt1, wt2] at KW
  unfold hval at KW
  rw [HN.out] at KW
  clear wt1 wt2
  go_wp2_with fail
  refine KW.out.mono ?_
  rintro e w4 ⟨A4, k4, rfl, hx4, o4⟩
  have hx34 : Ext w3 w4 := (Ext.alloc (Ext.refl w3) _).trans hx4
  have hr4 : HsR w4 (hval LS A4 k4) LS := hsr_own o4
  clear KW c0 c1 c2' hx4 o4
  go_upto_region 9 with fail
  obtain ⟨P4, hP4⟩ : ∃ P, w4.alloc (.cells #[.int .i64 LS.mo, .int .i64 LS.pk, .slice A4 LS.ws.length k4] 25) = P := ⟨_, rfl⟩
  have xq4 : Ext w4 P4 := by rw [← hP4]; exact Ext.alloc (Ext.refl _) _
  have bq4 : P4.heap[w4.heap.size]? = some (.cells #[.int .i64 LS.mo, .int .i64 LS.pk, .slice A4 LS.ws.length k4] 25 (0, 0)) := by rw [← hP4]; exact heap_alloc_new _ _
  try rw [hP4]
  clear hP4
  have hr5 := hr4.ext xq4
  have hx35 := hx34.trans xq4
  have i1 := i1.ext hx35
  obtain ⟨d0, d1, d2, -⟩ := house_cells bq4
  have hLSs : LS.sized := by unfold Hs.sized; rw [HLL.out]; omega
  have hfl : fewV LS = fewH LS := by unfold fewV; rw [HCKL.out, if_neg (by simp)]
  have KF2 := hid (fewest_any _ LS P4 hr5 hLSs)
  rw [hfl, show fewE LS = 0 from HCKL.out] at KF2
  obtain ⟨Lo, hLo⟩ : ∃ L, fewH LS = L := ⟨_, rfl⟩
  rw [hLo] at KF2 gle gge gin gtr
  rw [HLF.out] at gle gge gin gtr
  have HGI := hid gin
  have HGT := hid gtr
  have HGE := hid gge
  have HLE := hid gle
  clear gin gtr gge gle
  unfold hval at KF2
  clear hr4 hr5 xq4 bq4 hx34 hfl hLSs hLo
  go_wp2_with fail
  refine KF2.out.mono ?_
  rintro e w5 ⟨A5, k5, rfl, hx5, -⟩
  have hx3c := hx3.trans (hx35.trans hx5)
  have i1 := i1.ext hx5
  clear KF2 d0 d1 d2 hx35 hx5
  have gle := HLE.out
  have gge := HGE.out
  have g1' : ¬ ((Lo.length : Int) > (Lf.length : Int)) := by omega
  have g2' : ¬ ((Lo.length : Int) < (Lf.length : Int) - 1) := by omega
  have hlo14 : Lo.length ≤ 14 := by omega
  have KC := hid (containsI_any (n : Int) A1 k1 Lf w5 i1 (by omega))
  have i5w := i1
  go_upto_region 10 with fail
  go_cut [93] (fun s93 wx => s93 = .bool false ∧ w5 = wx)
  case first =>
    cases hm : memI (n : Int) Lf with
    | false =>
      rw [hm] at KC
      go_wp2_with fail
      refine KC.out.mono ?_
      rintro e w6 ⟨rfl, rfl⟩
      go_wp2_with fail
      go_meet
      exact ⟨by first | rfl | exact congrArg Value.bool (by rw [Bool.or_eq_false_iff]; exact ⟨decide_eq_false (by omega), decide_eq_false (by omega)⟩), rfl⟩
    | true =>
      rw [hm] at KC
      have hin := HGI.out (mem_memI.1 hm)
      have hne : ((Lo.length : Int) != (Lf.length : Int) - 1) = false := by
        have : (Lo.length : Int) = (Lf.length : Int) - 1 := by omega
        simp [this]
      have hne2 : (Lo.length : Int) = (Lf.length : Int) - 1 := by omega
      go_wp2_with fail
      refine KC.out.mono ?_
      rintro e w6 ⟨rfl, rfl⟩
      go_wp2_with fail
      go_meet
      exact ⟨by first | rfl | exact congrArg Value.bool (decide_eq_false (by omega)) | exact congrArg Value.bool hne, rfl⟩
  case rest =>
    obtain ⟨rfl, hwc⟩ := hcut
    subst hwc
    clear KC
    have KO := hid (lown_any _ h w5 (HR.out w5 hx3c) (by rw [HN.out]; omega))
    unfold hval at KO
    rw [HN.out] at KO
    obtain ⟨c0, c1, c2'⟩ := FH.out w5 hx3c
    go_wp2_with fail
    refine KO.out.mono ?_
    rintro e w6 ⟨g, cu, rfl, ho6, hx6⟩
    clear KO c0 c1 c2'
    go_upto_region 13 with fail
    obtain ⟨P6, hP6⟩ : ∃ P, w6.alloc (.cells #[.int .i64 h.mo, .int .i64 h.pk, .slice (some ⟨g, 0, none⟩) N cu] 25) = P := ⟨_, rfl⟩
    have xq6 : Ext w6 P6 := by rw [← hP6]; exact Ext.alloc (Ext.refl _) _
    have bq6 : P6.heap[w6.heap.size]? = some (.cells #[.int .i64 h.mo, .int .i64 h.pk, .slice (some ⟨g, 0, none⟩) N cu] 25 (0, 0)) := by rw [← hP6]; exact heap_alloc_new _ _
    try rw [hP6]
    clear hP6
    have hx56 := hx6.trans xq6
    have hx3d := hx3c.trans hx56
    have i1 := i1.ext hx56
    have ho7 := own_below ho6 xq6
    obtain ⟨BU, hBU⟩ : ∃ BU, w6.heap.size = BU := ⟨_, rfl⟩
    rw [hBU] at bq6
    try rw [hBU]
    have hgl : w5.heap.size ≤ g ∧ g < BU := by have := ho6.lt g rfl; omega
    have hy := wgAt_some hnh
    obtain ⟨y, hyy⟩ : ∃ y, wgAt h n = y := ⟨_, rfl⟩
    rw [hyy] at hy
    have hym := HK.out.ms y (List.mem_of_getElem? hy)
    have hcells : ∀ (j : Nat) (u : Value), (layWg.cells y)[j]? = some u → P6.cell? ⟨g, n * 5 + j, none⟩ = some u := fun j u hu => by
      have hc := ho7.cells (g := g) rfl (n * 5 + j) u (layWg.rows_get _ n y hy j u hu)
      rw [Addr.add_lit, Nat.zero_add] at hc
      exact hc
    have y2 := hcells 2 _ rfl
    have y3 := hcells 3 _ rfl
    have hn' : (n : Int) < (N : Int) := by omega
    obtain ⟨d0, d1, d2, -⟩ := house_cells bq6
    go_upto_region 14 with fail
    have FX : Hid (∀ w', Ext P6 w' → w'.cell? ⟨g, n * 5 + 2, none⟩ = some (.int .i64 y.sh) ∧ w'.cell? ⟨g, n * 5 + 3, none⟩ = some (.int .i64 y.ml)) := fun w' hx => ⟨hx.cell y2, hx.cell y3⟩
    clear d0 d1 d2 y2 y3 hcells
    obtain ⟨w9, hw9e⟩ : ∃ w9, P6.drew = w9 := ⟨_, rfl⟩
    have hw9 : Ext P6 w9 := by rw [← hw9e]; exact Ext.drew (Ext.refl _)
    obtain ⟨y2, y3⟩ := FX.out w9 hw9
    have ho9 := own_below ho7 hw9
    have hbq9 := (Below.block hw9 _ (Array.getElem?_eq_some_iff.1 bq6).1).trans bq6
    obtain ⟨d0, d1, d2, -⟩ := house_cells hbq9
    have fzg : ∀ i, w9.frozen? ⟨g, i, none⟩ = false := fun i => by
      rcases ho9.2 with ⟨h1, -⟩ | ⟨g2, cap, cur, e1, -, h2, -⟩
      · cases h1
      · cases e1; simp [World.frozen?, h2]
    have hgBU : BU ≠ g := by omega
    have hb5 : 0 ≤ (b : Int) % 5 ∧ (b : Int) % 5 ≤ 4 := by omega
    have hb3 : 0 ≤ (b : Int) % 3 ∧ (b : Int) % 3 ≤ 2 := by omega
    obtain ⟨a1, ha1⟩ : ∃ a1, max 1 (y.ml - (b : Int) % 5) = a1 := ⟨_, rfl⟩
    obtain ⟨a2, ha2⟩ : ∃ a2, min 1000 (y.sh + (b : Int) % 3) = a2 := ⟨_, rfl⟩
    have ha1i : (if 1 < y.ml - (b : Int) % 5 then y.ml - (b : Int) % 5 else 1) = a1 := by rw [← ha1, max_if]
    have ha2i : (if 1000 ≤ y.sh + (b : Int) % 3 then 1000 else y.sh + (b : Int) % 3) = a2 := by rw [← ha2, Int.min_def]
    have ha2j : (if y.sh + (b : Int) % 3 < 1000 then y.sh + (b : Int) % 3 else 1000) = a2 := by rw [← ha2, Int.min_def]; split <;> split <;> omega
    have hr1 : 1 ≤ a1 ∧ a1 ≤ y.ml ∧ y.sh ≤ a2 ∧ a2 ≤ 1000 := by omega
    have hyU := wide_cla HK.out hnh (w := { y with ml := a1, sh := a2 }) ⟨by show 0 ≤ y.mo ∧ y.mo < h.mo; exact HK.out.wm y (List.mem_of_getElem? hy), by show (1 ≤ y.sl ∧ y.sl ≤ a2 ∧ a2 ≤ 1000) ∧ (1 ≤ a1 ∧ a1 ≤ y.mh ∧ y.mh ≤ 1000); omega⟩ (by rw [hyy]) (by rw [hyy]) (by rw [hyy]; exact hr1.2.2.1) (by rw [hyy]; exact hr1.2.1) (by rw [hyy])
    obtain ⟨hUok, hUc⟩ := hyU
    have o10 := ((ho9.stored (n * 5 + 3) (.int .i64 a1)).1.stored (n * 5 + 1 + 1) (.int .i64 a2)).1
    rw [wg_rows_wide _ n y a1 a2 hy] at o10
    obtain ⟨W10, hW10⟩ : ∃ W10, (w9.setCell ⟨g, n * 5 + 3, none⟩ (.int .i64 a1)).setCell ⟨g, n * 5 + 1 + 1, none⟩ (.int .i64 a2) = W10 := ⟨_, rfl⟩
    have hS10 : BelS (fun k => k = g) w9 W10 := by rw [← hW10]; exact belS_two w9 g _ _ _ _
    rw [hW10] at o10
    have HW10 := hid hW10
    clear hW10
    go_region
    go_upto_region 15 with fail
    try rw [HW10.out]
    clear ha1 ha2 ha1i ha2i ha2j hb5 hb3 y2 y3 fzg
    have hlU : (h.ws.set n { y with ml := a1, sh := a2 }).length = N := by rw [List.length_set, HN.out]
    obtain ⟨U, hU⟩ : ∃ U : Hs, ({ h with ws := h.ws.set n { y with ml := a1, sh := a2 } } : Hs) = U := ⟨_, rfl⟩
    have eu0 : U.mo = h.mo := by rw [← hU]
    have eu1 : U.pk = h.pk := by rw [← hU]
    have eu2 : U.ws.length = N := by rw [← hU]; exact hlU
    rw [hU] at hUok
    have hUle : (fewH U).length ≤ Lf.length := by
      rw [← HLF.out]
      exact wide_le HK.out hUok (by rw [eu2, HN.out]) (by rw [← hU]; exact hUc)
    have hrU : HsR W10 (hval U (some ⟨g, 0, none⟩) cu) U := by
      refine hsr_own (base := w5.heap.size) ?_
      rw [eu2, ← hU]; exact o10
    have hvU : hval U (some ⟨g, 0, none⟩) cu = .agg #[.int .i64 h.mo, .int .i64 h.pk, .slice (some ⟨g, 0, none⟩) N cu] := by unfold hval; rw [eu0, eu1, eu2]
    have hUs : U.sized := by unfold Hs.sized; rw [eu2]; omega
    have hfU : fewV U = fewH U := by unfold fewV; rw [checkH_of hUok, if_neg (by simp)]
    have KF3 := hid (fewest_any _ U W10 hrU hUs)
    rw [hfU, show fewE U = 0 from checkH_of hUok, hvU] at KF3
    obtain ⟨Lw, hLw⟩ : ∃ L, fewH U = L := ⟨_, rfl⟩
    rw [hLw] at KF3 hUle
    have kb10 : W10.heap[BU]? = some (.cells #[.int .i64 h.mo, .int .i64 h.pk, .slice (some ⟨g, 0, none⟩) N cu] 25 (0, 0)) := hS10.heap hbq9 hgBU
    have hx910 : Ext w5 W10 := ((Ext.belS (S := fun k => k = g) (hx56.trans hw9)).trans hS10).ext (fun k hk hS => by omega)
    have hx310 := hx3c.trans hx910
    have i1 := (i1.ext hw9)
    have hg1 : ∀ a, A1 = some a → a.block ≠ g ∨ Lf = [] := fun a ha => by
      rcases Nat.lt_or_ge a.block w5.heap.size with hlt2 | hge
      · exact .inl (by omega)
      · by_cases e : Lf = []
        · exact .inr e
        · exfalso
          rcases i5w with hn2 | ⟨bb, off, e1, hc⟩
          · exact e (by simpa using hn2)
          · rw [ha] at e1
            cases e1
            cases hLf2 : Lf with
            | nil => exact e hLf2
            | cons z zs =>
              have := World.block_lt_of_cell? _ _ (hc 0 (.int .i64 z) (by rw [hLf2]; rfl))
              simp only at this hge
              omega
    have i1 : Ints W10 A1 Lf := by
      by_cases e : Lf = []
      · rw [e]; exact Ints.nil _ _
      · exact hS10.rd i1 (fun a ha hk => (hg1 a ha).elim (fun q => q hk) e)
    obtain ⟨d0, d1, d2, -⟩ := house_cells kb10
    clear hg1 hUok hUc hrU hvU hUs hfU hU hlU eu0 eu1 eu2 hLw o10 kb10 hbq9 ho9 ho7 hS10 bq6 FX hw9 hx56
    have g3' : ¬ ((Lw.length : Int) > (Lf.length : Int)) := by omega
    have hlw14 : Lw.length ≤ 14 := by omega
    clear hUle
    go_wp2_with fail
    refine KF3.out.mono ?_
    rintro e w11 ⟨A11, k11, rfl, hx11, -⟩
    have i1 := i1.ext hx11
    have hx311 := hx310.trans hx11
    clear KF3 d0 d1 d2 hx310 hx11
    have hfT : truV h = trustH h := by unfold truV; rw [checkH_of HK.out, if_neg (by simp)]
    have KT := hid (trusted_any _ h w11 (HR.out w11 hx311) hs)
    rw [hfT, show fewE h = 0 from checkH_of HK.out] at KT
    obtain ⟨Lt, hLt⟩ : ∃ L, trustH h = L := ⟨_, rfl⟩
    rw [hLt] at KT
    have hFT : Hid (∀ x ∈ Lf, x ∉ Lt) := by
      unfold Hid
      rw [← hLt, ← HLF.out]
      exact few_trust HK.out
    have HGT2 : Hid ((n : Int) ∈ Lt ↔ Lo.length = Lf.length) := by
      unfold Hid
      rw [← hLt]
      exact HGT.out
    have hlt14 : Lt.length ≤ 1000000 := by
      rw [← hLt]
      have := someW_len (trustB h) h.ws.length
      have := HK.out.len
      unfold trustH
      omega
    unfold hval at KT
    rw [HN.out] at KT
    clear hfT hLt
    obtain ⟨c0, c1, c2'⟩ := FH.out w11 hx311
    go_wp2_with fail
    refine KT.out.mono ?_
    rintro e w12 ⟨At, kt, rfl, hx12, it⟩
    have hx312 := hx311.trans hx12
    have i1 := i1.ext hx12
    clear KT c0 c1 c2' hx311 hx12
    go_upto_region 19 with fail
    obtain ⟨P12, hP12⟩ : ∃ P, w12.alloc (.cells #[.slice At Lt.length kt] 64) = P := ⟨_, rfl⟩
    have xp12 : Ext w12 P12 := by rw [← hP12]; exact Ext.alloc (Ext.refl _) _
    have bp12 : P12.heap[w12.heap.size]? = some (.cells #[.slice At Lt.length kt] 64 (0, 0)) := by rw [← hP12]; exact heap_alloc_new _ _
    try rw [hP12]
    clear hP12
    have t0 := blk_cells (xs := [.slice At Lt.length kt]) bp12 0 _ rfl
    have i1 := i1.ext xp12
    have it := it.ext xp12
    have hx3p := hx312.trans xp12
    have hfnp : FnP Try.prog (.func (.func 55) #[] #[.pointer (some ⟨w12.heap.size, 0, none⟩)]) P12 IntR anyx (fun x => memI x Lt) := by
      refine ⟨_, _, _, rfl, enters_of Try.func55 (by kernel_rfl) rfl, fun x v2 W _ hW hRR => ?_⟩
      obtain rfl : v2 = .int .i64 x := hRR
      exact contf_any Lt At kt w12.heap.size x W (Rd.kc it hW) hlt14 (hW _ _ t0)
    have hany : Hid (Lf.any (fun x => memI x Lt) = false) := by
      unfold Hid
      rw [List.any_eq_false]
      intro x hx hm
      exact hFT.out x hx (mem_memI.1 hm)
    have KCF := hid (containsFunc_int A1 k1 Lf _ anyx _ P12 i1 (by omega) (fun _ _ => trivial) hfnp)
    rw [hany.out] at KCF
    clear hfnp bp12 xp12 hx312
    go_wp2_with fail
    refine KCF.out.mono ?_
    rintro e w13 ⟨rfl, hx13⟩
    have t0 := hx13.cell t0
    have it := it.ext hx13
    have hx3q := hx3p.trans hx13
    clear KCF
    have KC2 := hid (containsI_any (n : Int) At kt Lt w13 it (by omega))
    cases hm : memI (n : Int) Lt with
    | false =>
      have hbe : ((Lo.length : Int) == (Lf.length : Int)) = false := by
        rw [Bool.eq_false_iff]
        intro hh
        have : Lo.length = Lf.length := by have := eq_of_beq hh; omega
        have := mem_memI.2 (HGT2.out.2 this)
        rw [hm] at this
        cases this
      rw [hm] at KC2
      clear hm
      go_wp2_with fail
      refine KC2.out.mono ?_
      rintro e w14 ⟨rfl, rfl⟩
      go_wp2_with fail
      refine (awake_any w13).mono ?_
      rintro e w15 ⟨rfl, hx15⟩
      go_wp2
      go_ret
      exact ⟨rfl, hx2.trans (hx3q.trans hx15)⟩
    | true =>
      have hbe : ((Lo.length : Int) == (Lf.length : Int)) = true := by
        have := HGT2.out.1 (mem_memI.1 hm)
        rw [this]; simp
      rw [hm] at KC2
      clear hm
      go_wp2_with fail
      refine KC2.out.mono ?_
      rintro e w14 ⟨rfl, rfl⟩
      go_wp2_with fail
      refine (awake_any w13).mono ?_
      rintro e w15 ⟨rfl, hx15⟩
      go_wp2
      go_ret
      exact ⟨rfl, hx2.trans (hx3q.trans hx15)⟩
end Go.Proofs.Ytjnobdcbbboeeaa
