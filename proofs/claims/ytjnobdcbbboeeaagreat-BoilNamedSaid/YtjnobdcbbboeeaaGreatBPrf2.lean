/- The proof's pairs: what they hold (as XBPrf). Printed by my gen_bprf2.py. -/
import Derived.Test.YtjnobdcbbboeeaaGreatH8
import Derived.Test.YtjnobdcbbboeeaaGreatH1
import Derived.Test.YtjnobdcbbboeeaaGreatH5
namespace Go.Proofs.YtjnobdcbbboeeaaGreat
open Go Go.RowKit Go.Shelf Go.Sort
set_option linter.unusedVariables false
set_option linter.unusedSimpArgs false

theorem rows_inv {α : Type} (F : Lay α) (hk : 0 < F.k) {l : List α} {j : Nat} {u : Value} (h : (F.rows l)[j]? = some u) : ∃ (i : Nat) (x : α) (r : Nat), l[i]? = some x ∧ (F.cells x)[r]? = some u ∧ j = i * F.k + r := by
  have hj := (List.getElem?_eq_some_iff.1 h).1
  rw [F.rows_len] at hj
  have hi : j / F.k < l.length := Nat.div_lt_of_lt_mul (by rw [Nat.mul_comm]; exact hj)
  obtain ⟨x, hx⟩ := get_of_lt l (j / F.k) hi
  have hr : j % F.k < (F.cells x).length := by rw [F.len]; exact Nat.mod_lt _ hk
  have e : j = j / F.k * F.k + j % F.k := by have := Nat.div_add_mod j F.k; rw [Nat.mul_comm] at this; exact this.symm
  refine ⟨j / F.k, x, j % F.k, hx, ?_, e⟩
  have g := F.rows_get l (j / F.k) x hx (j % F.k) _ (List.getElem?_eq_getElem hr)
  rw [← e, h] at g
  rw [List.getElem?_eq_getElem hr]
  exact g.symm
def pairZ (p : PrW) : Int × Int := ((p.1.1 : Int), (p.1.2 : Int))
theorem sort_any2 (g cap : Nat) (d : Array PrW) (w : World) (hg : g < w.heap.size) (hs : d.size ≤ 14) (hf : ∀ j, w.frozen? ⟨g, j, none⟩ = false)
    (hc : ∀ i, i < d.size → w.cell? ⟨g, i * 2, none⟩ = some (.int .i64 ((d[i]!).1.1 : Int)) ∧ w.cell? ⟨g, i * 2 + 1, none⟩ = some (.int .i64 ((d[i]!).1.2 : Int))) :
    Calls Tryz.prog 68 #[.slice (some ⟨g, 0, none⟩) d.size cap, .func (.func 69) #[] #[]] w fun e w' => e = .returned (.tuple #[]) ∧ Bel g w w' ∧
      ∃ d' : Array PrW, d'.size = d.size ∧ d'.toList.Perm d.toList ∧ (∀ i j, i < j → j < d.size → (d'[i]!).1.1 ≤ (d'[j]!).1.1) ∧ ∀ i, i < d.size → w'.cell? ⟨g, i * 2, none⟩ = some (.int .i64 ((d'[i]!).1.1 : Int)) ∧ w'.cell? ⟨g, i * 2 + 1, none⟩ = some (.int .i64 ((d'[i]!).1.2 : Int)) := by
  have eg : ∀ args w, (callFunc 69 args).run Tryz.prog w = .ok (.enter 69 args) w := enters_of Tryz.func69 (by kernel_rfl) rfl
  have hH := holds_pr hf hc
  have h := AnyQ.slices_SortFunc sort_lays 2 isAgg_pr sizeOf_pr encPr (fun _ => rfl) (fun x v hv => by simp [encPr] at hv; rcases hv with rfl | rfl <;> rfl) cmpPr swoPr 69 #[] g 0 cap d w eg (fun _ _ _ _ x y => cmpPr_any x y _) hH hg (by omega)
  refine Calls.mono h ?_
  rintro e w' ⟨rfl, d', n, os, hp, hso, rfl⟩
  have hH2 := holdsK_sortWorldK encPr 2 w g 0 n d d' os hg hH hp.1
  refine ⟨rfl, sort_bel d' os w g n, d', hp.1, ?_, fun i j hij hj => ?_, fun i hi => ?_⟩
  · have q := hp.2.2
    have e1 : d'.extract 0 d.size = d' := by rw [← hp.1]; exact Array.extract_size
    have e2 : d.extract 0 d.size = d := Array.extract_size
    rw [e1, e2] at q
    exact q
  · have q := hso i j (Nat.zero_le _) hij hj
    rw [cmpPr_lt] at q
    simpa using q
  · have hz : d'.size = d.size := hp.1
    have h0 := hH2 (i * 2) (by rw [size_flatK]; omega)
    have h1 := hH2 (i * 2 + 1) (by rw [size_flatK]; omega)
    rw [get_flatK _ _ _ _ (by omega)] at h0 h1
    rw [show i * 2 / 2 = i by omega, show i * 2 % 2 = 0 by omega] at h0
    rw [show (i * 2 + 1) / 2 = i by omega, show (i * 2 + 1) % 2 = 1 by omega] at h1
    rw [Nat.zero_add] at h0 h1
    exact ⟨h0.1, h1.1⟩
theorem sort_own2 (ov : Nat → Int) (base : Nat) (w : World) (A : Option Addr) (n c : Nat) (hln : (prL ov 14).length = n) (hov : ∀ b, ov b < 14) (ho : w.ownsRow base 43 2 (.slice A n c) n (layPr.rows (prL ov 14))) :
    Calls Tryz.prog 68 #[.slice A n c, .func (.func 69) #[] #[]] w fun e w' => e = .returned (.tuple #[]) ∧ BelS (fun k => base ≤ k) w w' ∧
      ∃ pr : List (Int × Int), pr.length = n ∧ pr.Perm (prL ov 14) ∧ pr.Pairwise (fun p q => p.1 ≤ q.1) ∧ Prs w' A pr := by
  rcases ho.2 with ⟨e, hn0⟩ | ⟨g, cap, cur, e, hg, hblk, h1, h2, h3, h4⟩
  · cases e
    refine (sort_none none 0 _ w).mono ?_
    rintro e w' ⟨rfl, rfl⟩
    have hp0 : prL ov 14 = [] := List.eq_nil_of_length_eq_zero hln
    exact ⟨rfl, BelS.refl _ _, [], rfl, by rw [hp0], .nil, .inl rfl⟩
  · cases e
    obtain ⟨d, hd⟩ : ∃ d : Array PrW, (((List.range 14).filter fun b => decide (0 ≤ ov b)).map fun b => (⟨((ov b).toNat % 14, b % 14), Nat.mod_lt _ (by decide), Nat.mod_lt _ (by decide)⟩ : PrW)).toArray = d := ⟨_, rfl⟩
    have hds : d.size = n := by rw [← hd, ← hln]; simp [prL]
    have hfz : ∀ j, w.frozen? ⟨g, j, none⟩ = false := fun j => by simp [World.frozen?, hblk]
    have hn14 : n ≤ 14 := by rw [← hln]; exact prL_len ov 14
    have hcell : ∀ j u, (layPr.rows (prL ov 14))[j]? = some u → w.cell? ⟨g, j, none⟩ = some u := fun j u hu => by
      rw [cell_of_row w g j _ _ _ hblk]
      rw [← h4, List.getElem?_take] at hu
      split at hu
      · rw [← hu]; simp
      · cases hu
    have hc : ∀ i, i < d.size → w.cell? ⟨g, i * 2, none⟩ = some (.int .i64 ((d[i]!).1.1 : Int)) ∧ w.cell? ⟨g, i * 2 + 1, none⟩ = some (.int .i64 ((d[i]!).1.2 : Int)) := fun i hi => by
      have hlf : i < ((List.range 14).filter fun b => decide (0 ≤ ov b)).length := by rw [← hd] at hi; simpa using hi
      obtain ⟨b, hb⟩ : ∃ b, ((List.range 14).filter fun b => decide (0 ≤ ov b))[i]? = some b := ⟨_, List.getElem?_eq_getElem hlf⟩
      have hbm := List.mem_of_getElem? hb
      rw [List.mem_filter, List.mem_range, decide_eq_true_eq] at hbm
      have hp : (prL ov 14)[i]? = some (ov b, (b : Int)) := by unfold prL; rw [List.getElem?_map, hb]; rfl
      have hdi : d[i]! = (⟨((ov b).toNat % 14, b % 14), Nat.mod_lt _ (by decide), Nat.mod_lt _ (by decide)⟩ : PrW) := by
        rw [← hd]
        simp [List.getElem!_eq_getElem?_getD, hb]
      have := hov b
      have e1 : (((ov b).toNat % 14 : Nat) : Int) = ov b := by omega
      have e2 : ((b % 14 : Nat) : Int) = (b : Int) := by omega
      rw [hdi]
      simp only [e1, e2]
      exact ⟨hcell _ _ (layPr.rows_get _ i _ hp 0 _ rfl), hcell _ _ (layPr.rows_get _ i _ hp 1 _ rfl)⟩
    have h := sort_any2 g c d w (Array.getElem?_eq_some_iff.1 hblk).1 (by omega) hfz hc
    rw [hds] at h
    refine h.mono ?_
    rintro e w' ⟨rfl, hb, d', hz, hperm, hsort, hcells⟩
    have hdm : d.toList.map pairZ = prL ov 14 := by
      rw [← hd]
      unfold prL
      rw [List.map_map]
      refine List.map_congr_left fun b hb => ?_
      rw [List.mem_filter, List.mem_range, decide_eq_true_eq] at hb
      have := hov b
      have e1 : (((ov b).toNat % 14 : Nat) : Int) = ov b := by omega
      have e2 : ((b % 14 : Nat) : Int) = (b : Int) := by omega
      show ((((ov b).toNat % 14 : Nat) : Int), ((b % 14 : Nat) : Int)) = _
      rw [e1, e2]
    have hzn : d'.size = n := by omega
    refine ⟨rfl, hb.belS hg, d'.toList.map pairZ, by simp [hzn], by rw [← hdm]; exact hperm.map _, ?_, .inr ⟨g, 0, rfl, fun j u hu => ?_⟩⟩
    · rw [List.pairwise_map, List.pairwise_iff_getElem]
      intro i j hi hj hij
      have hi' : i < d'.size := by simpa using hi
      have hj' : j < d'.size := by simpa using hj
      have q := hsort i j hij (by omega)
      rw [getElem!_pos d' i hi', getElem!_pos d' j hj'] at q
      show ((d'.toList[i]).1.1 : Int) ≤ ((d'.toList[j]).1.1 : Int)
      rw [Array.getElem_toList, Array.getElem_toList]
      omega
    · obtain ⟨i, x, r, hx, hr, e⟩ := rows_inv layPr (by decide) hu
      rw [List.getElem?_map] at hx
      obtain ⟨p, hp, rfl⟩ := Option.map_eq_some_iff.1 hx
      have hi' : i < d'.size := by have := (List.getElem?_eq_some_iff.1 hp).1; simpa using this
      have hpi : d'[i]! = p := by
        rw [getElem!_pos d' i hi']
        have := (List.getElem?_eq_some_iff.1 hp).2
        rw [← this, Array.getElem_toList]
      obtain ⟨k0, k1⟩ := hcells i (by omega)
      rw [hpi] at k0 k1
      rw [Nat.zero_add]
      have e' : j = i * 2 + r := e
      match r, hr with
      | 0, hr => cases hr; rw [e']; exact k0
      | 1, hr => cases hr; rw [e']; exact k1
def PrfPost (w : World) (h : Hs) (e : Ending) (w' : World) : Prop :=
  ∃ (A' : Option Addr) (c' : Nat) (pr : List (Int × Int)), e = .returned (.slice A' pr.length c') ∧ Ext w w' ∧ pr.length = sizeH h ∧ pr.Perm (prL (overH h) 14) ∧ pr.Pairwise (fun p q => p.1 ≤ q.1) ∧ Prs w' A' pr
set_option maxRecDepth 100000 in
set_option maxHeartbeats 4000000 in
theorem proof2_any (h : Hs) (D : Nat) (A : Option Addr) (c : Nat) (w : World) (hn : h.ws.length ≤ 14) (hd : Dsk w D A c h (claG h)) :
    Calls Tryz.prog 30 #[.pointer (some ⟨D, 0, none⟩)] w (PrfPost w h) := by
  unfold PrfPost
  obtain ⟨N, hN⟩ : ∃ N : Nat, h.ws.length = N := ⟨_, rfl⟩
  have HN := hid hN
  have e0 := hd.ws
  rw [hN] at e0 hn
  have HD := hid hd
  have hDl := hd.lt
  clear hN hd
  go_enter Tryz.func30, Tryz.ntmps30
  go_wp2_with fail
  obtain ⟨W1, hW1⟩ : ∃ W1, (w.alloc (.cells #[.pointer (some ⟨D, 0, none⟩)] 73)).alloc (.cells #[.int .i64 0, .int .i64 0, .int .i64 0, .int .i64 0, .int .i64 0, .int .i64 0, .int .i64 0, .int .i64 0, .int .i64 0, .int .i64 0, .int .i64 0, .int .i64 0, .int .i64 0, .int .i64 0] 112) = W1 := ⟨_, rfl⟩
  have hx1 : Ext w W1 := by rw [← hW1]; exact ((Ext.refl _).alloc _).alloc _
  have hbo : BI W1 (w.heap.size + 1) (fun _ => 0) := by
    have h := heap_alloc_new (w.alloc (.cells #[.pointer (some ⟨D, 0, none⟩)] 73)) (.cells (icell14 fun _ => 0).toArray 112)
    rw [World.size_alloc] at h
    rw [← hW1]; exact h
  have hbd : W1.cell? ⟨w.heap.size, 0, none⟩ = some (.pointer (some ⟨D, 0, none⟩)) := by rw [← hW1]; simp [go_sem]
  have hz1 : w.heap.size + 2 ≤ W1.heap.size := by rw [← hW1]; simp
  have hd1 := HD.out.ext hx1
  try rw [hW1]
  clear hW1 e0
  go_loopw [11] (fun i wr => ∃ kk : Nat, kk ≤ 14 ∧ i = .int .i64 kk ∧ BI wr (w.heap.size + 1) (fillI kk) ∧ BelS (fun k => k = w.heap.size + 1) W1 wr) (fun i _ => 14 - (intOf i).toNat)
  case atStart => exact ⟨0, Nat.zero_le _, rfl, hbo.congr (fun b _ => by simp [fillI]), BelS.refl _ _⟩
  case round =>
    obtain ⟨kk, hk, rfl, hb, hbl⟩ := hrel
    by_cases hlt : kk < 14
    · have hlt' : (kk : Int) < 14 := by omega
      have c0 := hb.cell hlt
      have fz := hb.frozen kk
      have hb2 := hb.set kk (-1)
      have hbl2 := hbl.setCell ⟨w.heap.size + 1, kk, none⟩ (.int .i64 (-1)) rfl
      have hcg : ∀ b, b < 14 → updI (fillI kk) kk (-1) b = fillI (kk + 1) b := fun b _ => by
        unfold updI fillI
        by_cases e : b = kk
        · subst e; simp
        · rw [if_neg e]
          by_cases h1 : b < kk
          · rw [if_pos h1, if_pos (by omega)]
          · rw [if_neg h1, if_neg (by omega)]
      have hb3 := hb2.congr hcg
      clear hcg hb2
      go_wp2
      go_roundw
      case rel => exact ⟨kk + 1, by omega, by go_num, hb3, hbl2⟩
      case measure => simp [intOf]; omega
    · have hlt' : ¬ (kk : Int) < 14 := by omega
      obtain rfl : kk = 14 := by omega
      have hb3 : BI wr (w.heap.size + 1) (prf (belH h) N 0) := hb.congr (fun b hb => by simp [fillI, hb, prf])
      have y0 := hbl.cell hbd (by simp)
      have hd2 : Dsk wr D A c h (claG h) := hbl.heap hd1 (by omega)
      have y2 := hd2.ws
      rw [HN.out] at y2
      clear hb
      go_wp2_with fail
      have hx2 : Ext w wr := ((Ext.belS (S := fun k => k = w.heap.size + 1) hx1).trans hbl).ext fun k hk e => by omega
      have hz2 := hbl.size
      obtain ⟨W2, hW2⟩ : ∃ W2, W2 = wr := ⟨_, rfl⟩
      subst hW2
      clear hbl hbo hd1
      have HOK := hid (fun m => prf_ok (belH_lt h) m)
      have HSTEP : Hid (∀ a, (plc (belH h) (N + 1) a (prf (belH h) N a) (fun _ => false)).2.1 = prf (belH h) N (a + 1)) := fun a => rfl
      go_loopw [23] (fun i wr => ∃ a : Nat, a ≤ N ∧ i = .int .i64 a ∧ BI wr (w.heap.size + 1) (prf (belH h) N a) ∧ BelS (fun k => k = w.heap.size + 1) W2 wr) (fun i _ => N - (intOf i).toNat)
      case atStart => exact ⟨0, Nat.zero_le _, rfl, hb3, BelS.refl _ _⟩
      case round =>
        obtain ⟨a, hk, rfl, hb, hbl⟩ := hrel
        by_cases hlt : a < N
        · have hlt' : (a : Int) < (N : Int) := by omega
          have hzr := hbl.size
          have z0 := hbl.cell y0 (by simp)
          have hd3 : Dsk wr D A c h (claG h) := hbl.heap hd2 (by omega)
          have hov : OvIn h.ws.length (prf (belH h) N a) := fun b => by
            have k := HOK.out a
            rw [HN.out] at k ⊢
            have := k.lo b
            by_cases e : 0 ≤ prf (belH h) N a b
            · have := (k.hi b e).1; right; omega
            · left; omega
          go_wp2_with fail
          obtain ⟨W3, hW3⟩ : ∃ W3, (wr.alloc (.cells #[.bool false, .bool false, .bool false, .bool false, .bool false, .bool false, .bool false, .bool false, .bool false, .bool false, .bool false, .bool false, .bool false, .bool false] 90)).alloc (.cells #[.func (.func 66) #[] (plcB w.heap.size wr.heap.size (w.heap.size + 1) (wr.heap.size + 1))] 69) = W3 := ⟨_, rfl⟩
          have hx3 : Ext wr W3 := by rw [← hW3]; exact ((Ext.refl _).alloc _).alloc _
          have hbb : BB W3 wr.heap.size (fun _ => false) := by
            rw [← hW3]
            exact (Below.heap_alloc _ _ _ (by simp)).trans (heap_alloc_new wr _)
          have hpl : W3.cell? ⟨wr.heap.size + 1, 0, none⟩ = some (.func (.func 66) #[] (plcB w.heap.size wr.heap.size (w.heap.size + 1) (wr.heap.size + 1))) := by rw [← hW3]; simp [go_sem]
          try simp only [plcB] at hW3
          try rw [hW3]
          clear hW3
          have KK := place_any h D w.heap.size wr.heap.size (w.heap.size + 1) (wr.heap.size + 1) A c (by rw [HN.out]; exact hn) (by omega) (by omega) (by omega) (by omega) (by omega) (by omega) (by omega) (N + 1) a (prf (belH h) N a) (fun _ => false) W3 (by have := um_none h.ws.length; rw [HN.out] at this ⊢; omega) (by rw [HN.out]; exact hlt) hov (hd3.ext hx3) (hx3.cell z0) hbb (hb.ext hx3) hpl
          refine KK.mono ?_
          rintro e w4 ⟨rfl, hb4, -, ho4⟩
          rw [HSTEP.out] at ho4
          have hbl4 := hbl.then_ ((Ext.belS hx3).trans hb4) (fun i hi hS => by rcases hS with rfl | rfl; omega; rfl)
          clear KK
          go_wp2
          go_roundw
          case rel => exact ⟨a + 1, by omega, by go_num, ho4, hbl4⟩
          case measure => simp [intOf]; omega
        · have hlt' : ¬ (a : Int) < (N : Int) := by omega
          obtain rfl : a = N := by omega
          obtain ⟨ov, hov⟩ : ∃ ov, prf (belH h) a a = ov := ⟨_, rfl⟩
          rw [hov] at hb
          have HBL : Hid (BelS (fun k => k = w.heap.size + 1) W2 wr) := hbl
          have hcb := hid (fun b (hb14 : b < 14) => hb.cell hb14)
          obtain ⟨V, hV⟩ : ∃ V, (icell14 ov).toArray = V := ⟨_, rfl⟩
          have HV := hid hV
          have hiv : ∀ k, k < 14 → V[k]? = some (.int .i64 (ov k)) := fun k hk => by rw [← hV]; simp [icell14, hk]
          clear hV
          go_wp2_with (refine wpList_load_cells rfl 112 (.tmp 3) rfl ⟨w.heap.size + 1, 0, none⟩ rfl (icell14 ov) (.array 14 3) (fun j v hv => ?_) Tryz.underlying112 rfl (by rw [info14]; rfl) ?_)
          · have hj : j < 14 := by
              have := (List.getElem?_eq_some_iff.1 hv).1
              simpa [icell14] using this
            have := hcb.out j hj
            rw [show (icell14 ov)[j]? = some (.int .i64 (ov j)) by simp [icell14, hj]] at hv
            cases hv
            exact this
          · rw [HV.out]
            obtain ⟨W0, hW0⟩ : ∃ W0, W0 = wr := ⟨_, rfl⟩
            subst hW0
            have hx20 : Ext w W0 := ((Ext.belS (S := fun k => k = w.heap.size + 1) hx2).trans HBL.out).ext fun k hk e => by omega
            have hvs : V.size = 14 := by rw [← HV.out]; simp [icell14]
            have HIV := hid hiv
            clear hbl hb hcb hiv hd2 y0 y2 HBL
            go_loopw [8, 32] (fun s8 i32 wr => ∃ (k n : Nat) (A' : Option Addr) (c' : Nat), k ≤ 14 ∧ i32 = .int .i64 (k : Int) ∧ (prL ov k).length = n ∧ s8 = .slice A' n c' ∧ wr.ownsRow W0.heap.size 43 2 (.slice A' n c') n (layPr.rows (prL ov k)) ∧ Ext W0 wr) (fun _ i _ => 14 - (intOf i).toNat)
            case atStart => exact ⟨0, 0, none, 0, Nat.zero_le _, rfl, rfl, rfl, own_nil _ _ _ _, Ext.refl _⟩
            case round =>
              obtain ⟨k, n, A', c', hk, rfl, hln, rfl, ho, hx⟩ := hrel
              by_cases hlt : k < 14
              · have hlt' : (k : Int) < 14 := by omega
                have v0 := HIV.out k hlt
                have HNX := hid (prL_next ov k)
                have HLN := hid hln
                have HO := hid ho
                have hn14 := prL_len ov k
                rw [hln] at hn14
                have hovk : ov k = -1 ∨ 0 ≤ ov k := by
                  have kk := (HOK.out a).lo k
                  rw [HN.out, hov] at kk; omega
                clear hln ho
                rcases hovk with e | e
                · rw [e] at v0
                  have hix := idx14 V k _ wr hlt v0
                  have HNE : Hid (prL ov (k + 1) = prL ov k) := by unfold Hid; rw [HNX.out, if_neg (by omega), List.append_nil]
                  clear HNX e
                  go_wp2
                  go_roundw
                  case rel => exact ⟨k + 1, n, A', c', by omega, by go_num, by rw [HNE.out]; exact HLN.out, rfl, by rw [HNE.out]; exact HO.out, hx⟩
                  case measure => simp [intOf]; omega
                · obtain ⟨q, hq⟩ : ∃ q : Nat, ov k = (q : Int) := ⟨(ov k).toNat, by omega⟩
                  have hq14 : q < 14 := by
                    have kk := ((HOK.out a).hi k (by rw [HN.out, hov]; exact e)).1
                    rw [HN.out, hov] at kk; omega
                  rw [hq] at v0
                  have hix := idx14 V k _ wr hlt v0
                  have HNE : Hid (prL ov (k + 1) = prL ov k ++ [((q : Int), (k : Int))]) := by unfold Hid; rw [HNX.out, if_pos e, hq]
                  clear HNX e hq
                  obtain ⟨W5, hW5⟩ : ∃ W5, wr.alloc (.cells #[.int .i64 (q : Int), .int .i64 (k : Int)] 43) = W5 := ⟨_, rfl⟩
                  have hx5 : Ext wr W5 := by rw [← hW5]; exact Ext.alloc (Ext.refl _) _
                  have HRD : Hid (Rd W5 (some ⟨wr.heap.size, 0, none⟩) [.int .i64 (q : Int), .int .i64 (k : Int)]) := by unfold Hid; rw [← hW5]; exact rd_blk2 (heap_alloc_new wr _)
                  have HO5 := hid (own_below HO.out hx5)
                  have hx15 := hx.trans hx5
                  have sz5 : W0.heap.size ≤ W5.heap.size := hx15.size
                  clear HO
                  go_wp2_with (at_builtin; (try rw [hW5]); refine wpList_append_rd2 _ rfl _ _ 35 rfl elem_pr W0.heap.size _ n (layPr.rows (prL ov k)) rfl HO5.out (some ⟨wr.heap.size, 0, none⟩) 1 1 [.int .i64 (q : Int), .int .i64 (k : Int)] rfl rfl HRD.out (by intro u hu; simp at hu; rcases hu with rfl | rfl <;> rfl) (by omega) sz5 ?_)
                  intro A6 c6 W6 own6 hbel6 hgr6 hloc6
                  have hx6 : Ext W0 W6 := Ext.grown hx15 hgr6 (fun g e => (HO5.out.lt g e).1)
                  have hown : W6.ownsRow W0.heap.size 43 2 (.slice A6 (n + 1) c6) (n + 1) (layPr.rows (prL ov (k + 1))) := by
                    rw [HNE.out, layPr.rows_app, layPr.rows_single]; exact own6
                  have HO6 := hid hown
                  have hn1 : (prL ov (k + 1)).length = n + 1 := by rw [HNE.out, List.length_append, HLN.out]; rfl
                  have HN1 := hid hn1
                  clear own6 hbel6 hgr6 hloc6 HO5 HRD hW5 hx5 hown hn1
                  go_wp2
                  go_roundw
                  case rel => exact ⟨k + 1, n + 1, A6, c6, by omega, by go_num, HN1.out, rfl, HO6.out, hx6⟩
                  case measure => simp [intOf]; omega
              · obtain rfl : k = 14 := by omega
                have hlt' : ¬ ((14 : Nat) : Int) < 14 := by omega
                have hln2 : n = sizeH h := by
                  rw [← hln]
                  unfold prL sizeH matL overH
                  rw [List.length_map, HN.out, hov]
                  have hk' := HOK.out a
                  rw [HN.out, hov] at hk'
                  have h14 : 14 = a + (14 - a) := by omega
                  rw [h14, filt_stop (fun b hb => (hk'.hi b (by simpa using hb)).2.1)]
                have hov2 : ∀ b, ov b < 14 := fun b => by
                  have hk' := HOK.out a
                  rw [HN.out, hov] at hk'
                  by_cases e : 0 ≤ ov b
                  · have := (hk'.hi b e).1; omega
                  · omega
                have KS := hid (sort_own2 ov W0.heap.size wr A' n c' hln hov2 ho)
                have hxw := hx20.trans hx
                have hz := hx20.size
                have HLN := hid hln2
                have HOV : Hid (overH h = ov) := by unfold Hid overH; rw [HN.out, hov]
                clear hln2 hln ho hov2 HOK HSTEP
                go_wp2_with fail
                refine KS.out.mono ?_
                rintro e w9 ⟨rfl, hb9, pr, hpl, hpp, hps, hpc⟩
                have HPR := hid (And.intro hpl (And.intro hpp (And.intro hps hpc)))
                clear hpl hpp hps hpc
                have hxe := ((Ext.belS (S := fun k => W0.heap.size ≤ k) hxw).trans hb9).ext fun k hk e => by omega
                clear KS
                go_wp2
                go_ret
                exact ⟨A', c', pr, by rw [HPR.out.1]; rfl, hxe, by rw [HPR.out.1]; exact HLN.out, by rw [HOV.out]; exact HPR.out.2.1, HPR.out.2.2.1, HPR.out.2.2.2⟩
/-! ### What the pairs prove -/
theorem prv_zero {h : Hs} : ∀ (l : List (Int × Int)) (U W : List Int), (∀ p ∈ l, (wgOK h p.1 && wgOK h p.2) = true ∧ claH h p.1.toNat p.2.toNat = true ∧ p.1 ∉ U ∧ p.2 ∉ W) → l.Pairwise (fun p q => p.1 ≠ q.1 ∧ p.2 ≠ q.2) → prvE h U W l = 0
  | [], _, _, _, _ => rfl
  | p :: l, U, W, hm, hd => by
    obtain ⟨h1, h2, h3, h4⟩ := hm p (List.mem_cons_self ..)
    rw [List.pairwise_cons] at hd
    have m1 : memI p.1 U = false := by rw [Bool.eq_false_iff]; exact fun e => h3 (mem_memI.1 e)
    have m2 : memI p.2 W = false := by rw [Bool.eq_false_iff]; exact fun e => h4 (mem_memI.1 e)
    unfold prvE
    rw [if_neg (by rw [h1]; simp), if_neg (by rw [h2]; simp), if_neg (by rw [m1, m2]; simp)]
    refine prv_zero l _ _ (fun q hq => ?_) hd.2
    obtain ⟨k1, k2, k3, k4⟩ := hm q (List.mem_cons_of_mem _ hq)
    have := hd.1 q hq
    refine ⟨k1, k2, ?_, ?_⟩
    · rw [List.mem_cons]
      exact fun e => e.elim (fun e => this.1 e.symm) k3
    · rw [List.mem_cons]
      exact fun e => e.elim (fun e => this.2 e.symm) k4
theorem prL_mem {ov : Nat → Int} {k : Nat} {p : Int × Int} (hp : p ∈ prL ov k) : ∃ b : Nat, b < k ∧ 0 ≤ ov b ∧ p = (ov b, (b : Int)) := by
  unfold prL at hp
  obtain ⟨b, hb, e⟩ := List.mem_map.1 hp
  rw [List.mem_filter, List.mem_range, decide_eq_true_eq] at hb
  exact ⟨b, hb.1, hb.2, e.symm⟩
theorem prL_distinct {ov : Nat → Int} (hi : ∀ b c, 0 ≤ ov b → ov b = ov c → b = c) (k : Nat) : (prL ov k).Pairwise (fun p q => p.1 ≠ q.1 ∧ p.2 ≠ q.2) := by
  unfold prL
  rw [List.pairwise_map]
  have hnd : ((List.range k).filter fun b => decide (0 ≤ ov b)).Pairwise (fun a b => a ≠ b) := List.Pairwise.filter _ List.nodup_range
  refine List.Pairwise.imp_of_mem (fun {a b} ha hb hne => ?_) hnd
  rw [List.mem_filter, decide_eq_true_eq] at ha hb
  refine ⟨fun e => hne (hi a b ha.2 e), fun e => hne ?_⟩
  have : ((a : Nat) : Int) = (b : Int) := e
  omega
structure PrfGood (h : Hs) (pr : List (Int × Int)) : Prop where
  ok : provE h pr = 0 ∧ provV h pr = (pr.length : Int)
  asc : ∀ i, 1 ≤ i → ∀ p q, pr[i - 1]? = some p → pr[i]? = some q → p.1 < q.1
theorem prf_good {h : Hs} (k : HsOK h) {pr : List (Int × Int)} (hp : pr.Perm (prL (overH h) 14)) (hs : pr.Pairwise (fun p q => p.1 ≤ q.1)) : PrfGood h pr := by
  have hok := over_ok h
  have hdis : pr.Pairwise (fun p q => p.1 ≠ q.1 ∧ p.2 ≠ q.2) := (hp.pairwise_iff (fun {x y} e => ⟨fun q => e.1 q.symm, fun q => e.2 q.symm⟩)).2 (prL_distinct hok.inj 14)
  have hmem : ∀ p ∈ pr, (wgOK h p.1 && wgOK h p.2) = true ∧ claH h p.1.toNat p.2.toNat = true := fun p hpm => by
    obtain ⟨b, hb, h0, e⟩ := prL_mem (hp.mem_iff.1 hpm)
    subst e
    obtain ⟨h1, h2, h3⟩ := hok.hi b h0
    have h4 := mem_bel.1 h3
    refine ⟨?_, by rw [Int.toNat_natCast]; exact h4.2⟩
    unfold wgOK
    rw [Bool.and_eq_true, inB_iff, inB_iff]
    refine ⟨⟨h0, ?_⟩, ?_, ?_⟩
    · show overH h b ≤ (h.ws.length : Int) - 1; omega
    · show 0 ≤ (b : Int); omega
    · show (b : Int) ≤ (h.ws.length : Int) - 1; omega
  have e0 : provE h pr = 0 := by
    unfold provE
    rw [if_neg (by simp [checkH_of k])]
    exact prv_zero pr [] [] (fun p hpm => ⟨(hmem p hpm).1, (hmem p hpm).2, by simp, by simp⟩) hdis
  refine ⟨⟨e0, by unfold provV; rw [if_pos e0]⟩, fun i hi p q h1 h2 => ?_⟩
  obtain ⟨l1, e1⟩ := List.getElem?_eq_some_iff.1 h1
  obtain ⟨l2, e2⟩ := List.getElem?_eq_some_iff.1 h2
  have a := List.pairwise_iff_getElem.1 hs (i - 1) i l1 l2 (by omega)
  have b := (List.pairwise_iff_getElem.1 hdis (i - 1) i l1 l2 (by omega)).1
  rw [e1, e2] at a b
  omega
end Go.Proofs.YtjnobdcbbboeeaaGreat
