/- The walk of boil.Proves. Printed by my gen_bprv.py. Maps from numbers to truth values, as sets of numbers. No program stands here. copy into a row of the call's own; make with room for more. No program stands here. The walk of boil.Without. Printed by my gen_bwth.py. The walks of the law's weighed and Four. slices.Equal and laurelkit.Eq over numbers. The walk of the law's awake. Printed by my gen_bawk.py. -/
import Derived.Test.YtjnobdcbbboeeaaGreatH9
import Derived.Test.YtjnobdcbbboeeaaGreatH5
import Derived.Test.YtjnobdcbbboeeaaGreatH6
import Derived.Deep.RegionHeld3
import Derived.Test.YtjnobdcbbboeeaaGreatH2
import Derived.Test.YtjnobdcbbboeeaaGreatH1
import Derived.Maps.OwnSet
import Derived.Test.YtjnobdcbbboeeaaGreatProg
import Derived.Laws.CopyOwn
import Derived.OwnWalk
import Derived.Laws.ResultCell
import Derived.Test.YtjnobdcbbboeeaaGreatH7
namespace Go.Proofs.YtjnobdcbbboeeaaGreat
open Go Go.RowKit Go.Shelf
set_option linter.unusedVariables false
set_option linter.unusedSimpArgs false

theorem inSet_cons (l : List Int) (n : Nat) : updB (inSet l) n true = inSet ((n : Int) :: l) := by
  funext b
  unfold updB inSet
  by_cases e : b = n
  · subst e
    rw [if_pos rfl]
    exact (mem_memI.2 (by simp)).symm
  · rw [if_neg e]
    have : (((b : Int) ∈ (n : Int) :: l) ↔ (b : Int) ∈ l) := by simp; omega
    rw [Bool.eq_iff_iff, mem_memI, mem_memI, this]
theorem wgOK_iff {h : Hs} {n : Int} : wgOK h n = true ↔ 0 ≤ n ∧ n < h.ws.length := by unfold wgOK; rw [inB_iff]; omega
/-- One pair: what its round answers, 0 for going on. -/
def prvS (h : Hs) (U W : List Int) (p : Int × Int) : Int :=
  if (wgOK h p.1 && wgOK h p.2) = false then 1 else if claH h p.1.toNat p.2.toNat = false then 8 else if (memI p.1 U || memI p.2 W) = true then 5 else 0
theorem prvE_cons (h : Hs) (U W : List Int) (p : Int × Int) (l : List (Int × Int)) : prvE h U W (p :: l) = if prvS h U W p = 0 then prvE h (p.1 :: U) (p.2 :: W) l else prvS h U W p := by
  unfold prvS
  rw [prvE]
  split
  · rfl
  · split
    · rfl
    · split <;> rfl
set_option maxRecDepth 100000 in
set_option maxHeartbeats 8000000 in
theorem proves_any (v : Value) (h : Hs) (w : World) (hr : HsR w v h) (hs : h.sized) (Ap : Option Addr) (cp : Nat) (ps : List (Int × Int)) (hA : Rows layPr w Ap ps) (hps : ps.length ≤ 9223372036854775807) :
    Calls Tryz.prog 12 #[v, .slice Ap ps.length cp] w fun e w' => e = .returned (.tuple #[.int .i64 (provV h ps), .int .i64 (provE h ps)]) ∧ Ext w w' := by
  obtain ⟨A, c, rfl, hrw, hcap⟩ := hr
  obtain ⟨T, hT⟩ : ∃ T, checkH h = T := ⟨_, rfl⟩
  obtain ⟨w1, hw1⟩ : ∃ w1, w.alloc (.cells #[.int .i64 h.mo, .int .i64 h.pk, .slice A h.ws.length c] 25) = w1 := ⟨_, rfl⟩
  have hx1 : Ext w w1 := by rw [← hw1]; exact Ext.alloc (Ext.refl w) _
  have b1 : w1.heap[w.heap.size]? = some (.cells #[.int .i64 h.mo, .int .i64 h.pk, .slice A h.ws.length c] 25 (0, 0)) := by rw [← hw1]; exact heap_alloc_new w _
  have FH : Hid (∀ w', Ext w1 w' → w'.cell? ⟨w.heap.size, 0, none⟩ = some (.int .i64 h.mo) ∧ w'.cell? ⟨w.heap.size, 1, none⟩ = some (.int .i64 h.pk) ∧ w'.cell? ⟨w.heap.size, 2, none⟩ = some (.slice A h.ws.length c)) := fun w' hx =>
    ⟨hx.cell (by rw [cell_of_row w1 w.heap.size 0 _ _ _ b1]; rfl), hx.cell (by rw [cell_of_row w1 w.heap.size 1 _ _ _ b1]; rfl), hx.cell (by rw [cell_of_row w1 w.heap.size 2 _ _ _ b1]; rfl)⟩
  have HRW : Hid (∀ w', Ext w1 w' → HsR w' (hval h A c) h) := fun w' hx => ⟨A, c, rfl, Rows.ext hrw (hx1.trans hx), hcap⟩
  have HPS : Hid (∀ w', Ext w1 w' → Rows layPr w' Ap ps) := fun w' hx => Rows.ext hA (hx1.trans hx)
  have KO := hid (opened_any (hval h A c) h w1 (HRW.out _ (Ext.refl _)) hs)
  unfold hval at KO
  have HT := hid hT
  obtain ⟨E, hE⟩ : ∃ E, provE h ps = E := ⟨_, rfl⟩
  obtain ⟨V, hV⟩ : ∃ V, provV h ps = V := ⟨_, rfl⟩
  have HE : Hid ((T ≠ 0 → E = T) ∧ (T = 0 → prvE h [] [] ps = E) ∧ V = if E = 0 then (ps.length : Int) else 0) := by
    refine ⟨fun e => ?_, fun e => ?_, ?_⟩
    · rw [← hE]; unfold provE; rw [hT, if_pos e]
    · rw [← hE]; unfold provE; rw [hT, if_neg (by simp [e])]
    · rw [← hV, ← hE]; rfl
  rw [hE, hV]
  have HW1 := hid hw1
  clear hw1 hT hrw b1 hE hV hA
  obtain ⟨NP, hNP⟩ : ∃ NP : Nat, ps.length = NP := ⟨_, rfl⟩
  have HNP := hid hNP
  rw [hNP] at hps HE ⊢
  clear hNP
  unfold hval
  go_enter Tryz.func12, Tryz.ntmps12
  go_upto_region 1 with fail
  rw [HW1.out]
  clear HW1
  obtain ⟨c0, c1, c2⟩ := FH.out w1 (Ext.refl _)
  go_wp2_with fail
  refine KO.out.mono ?_
  rintro e w2 ⟨r, rfl, h2, hok, hbad⟩
  rw [HT.out]
  rw [HT.out] at hok hbad
  have hx2 := hx1.trans h2
  clear KO c0 c1 c2
  by_cases h0 : T = 0
  case neg =>
    have h0b : (T != 0) = true := by simpa using h0
    have HL := HE.out.1 h0
    have HV := HE.out.2.2
    rw [HL, if_neg h0] at HV
    subst HL
    subst HV
    go_wp2
    go_ret2
    exact ⟨rfl, hx2⟩
  subst h0
  have HP0 : Hid (prvE h [] [] (ps.drop 0) = E) := HE.out.2.1 rfl
  have HV0 := hid HE.out.2.2
  have k := checkH_ok HT.out
  obtain ⟨D, A2, cc, rfl, hd, -, -⟩ := hok rfl
  clear hok hbad HE
  have hlen := k.len
  have HHD := hid hd
  have hDl := hd.lt
  obtain ⟨W4, hW4⟩ : ∃ W4, (w2.alloc (.cells (bcell14 fun _ => false).toArray 90)).alloc (.cells (bcell14 fun _ => false).toArray 90) = W4 := ⟨_, rfl⟩
  have hx4 : Ext w2 W4 := by rw [← hW4]; exact (Ext.refl _).alloc _ |>.alloc _
  have hu4 : BB W4 w2.heap.size (inSet []) := by
    rw [inSet_nil, ← hW4]
    exact (Below.heap_alloc _ _ _ (by simp)).trans (heap_alloc_new w2 _)
  have hl4 : BB W4 (w2.heap.size + 1) (inSet []) := by
    rw [inSet_nil, ← hW4]
    have q := heap_alloc_new (w2.alloc (.cells (bcell14 fun _ => false).toArray 90)) (.cells (bcell14 fun _ => false).toArray 90)
    rw [World.size_alloc] at q
    exact q
  have hz4 : W4.heap.size = w2.heap.size + 1 + 1 := by rw [← hW4]; simp
  go_upto_region 5 with fail
  simp only [bcell14, List.range, List.range.loop, List.map_cons, List.map_nil] at hW4
  rw [hW4]
  clear hW4
  go_wp2_with fail
  go_loopw [22] (fun i wr => ∃ (n : Nat) (U L : List Int), i = .int .i64 (n : Int) ∧ n ≤ NP ∧ Hid (prvE h U L (ps.drop n) = E) ∧ BB wr w2.heap.size (inSet U) ∧ BB wr (w2.heap.size + 1) (inSet L) ∧ BelS (fun k => w2.heap.size ≤ k) W4 wr) (fun i _ => NP - (intOf i).toNat)
  case atStart => exact ⟨0, [], [], rfl, Nat.zero_le _, HP0, hu4, hl4, BelS.refl _ _⟩
  case round =>
    obtain ⟨n, U, L, rfl, hnP, HPR, hu, hl, hbl⟩ := hrel
    have hxw : Ext w wr := hx2.trans (((Ext.belS hx4).trans hbl).ext fun k hk hS => by omega)
    have hx1r : Ext w1 wr := h2.trans (((Ext.belS hx4).trans hbl).ext fun k hk hS => by omega)
    have hdr : Dsk wr D A2 cc h (claG h) := hbl.heap (hd.ext hx4) (by omega)
    have hul := hu.lt
    have hll := hl.lt
    by_cases hlt : n < NP
    · have hlt' : (n : Int) < (NP : Int) := by omega
      obtain ⟨p, hp⟩ := get_of_lt ps n (by rw [HNP.out]; exact hlt)
      have HP2 : Hid ((if prvS h U L p = 0 then prvE h (p.1 :: U) (p.2 :: L) (ps.drop (n + 1)) else prvS h U L p) = E) := by
        unfold Hid
        rw [← prvE_cons, ← HPR.out]
        rw [show ps.drop n = p :: ps.drop (n + 1) from by rw [List.drop_eq_getElem_cons (i := n) (by rw [HNP.out]; exact hlt), (List.getElem?_eq_some_iff.1 hp).2]]
      obtain ⟨Sx, hSx⟩ : ∃ Sx, prvS h U L p = Sx := ⟨_, rfl⟩
      rw [hSx] at HP2
      have HS := hid hSx
      clear HPR hSx
      obtain ⟨gp, off, hAp, kc⟩ := Rows.at_ (HPS.out wr hx1r) (by decide) hp
      have k0 := kc 0 _ rfl
      have k1 := kc 1 _ rfl
      have ek : layPr.k = 2 := rfl
      rw [ek, Nat.add_zero] at k0
      rw [ek] at k1
      subst hAp
      clear hp kc
      go_upto_region 8 with fail
      obtain ⟨W7, hW7⟩ : ∃ W7, wr.alloc (.cells #[.int .i64 p.1, .int .i64 p.2] 43) = W7 := ⟨_, rfl⟩
      have hx7 : Ext wr W7 := by rw [← hW7]; exact (Ext.refl _).alloc _
      have hp7 : W7.heap[wr.heap.size]? = some (.cells #[.int .i64 p.1, .int .i64 p.2] 43 (0, 0)) := by rw [← hW7]; exact heap_alloc_new _ _
      rw [hW7]
      clear hW7 k0 k1
      obtain ⟨pa, pb⟩ := p
      simp only at hp7 HP2 HS ⊢
      have hx17 := hx1r.trans hx7
      obtain ⟨c0, c1, c2⟩ := FH.out W7 hx17
      have q0 : W7.cell? ⟨wr.heap.size, 0, none⟩ = some (.int .i64 pa) := by rw [cell_of_row W7 wr.heap.size 0 _ _ _ hp7]; rfl
      have q1 : W7.cell? ⟨wr.heap.size, 1, none⟩ = some (.int .i64 pb) := by rw [cell_of_row W7 wr.heap.size 1 _ _ _ hp7]; rfl
      have KA := hid (weighing_any (hval h A c) h pa W7 (HRW.out W7 hx17) hs)
      have KB : Hid (∀ w', Ext W7 w' → Calls Tryz.prog 45 #[hval h A c, .int .i64 pb] w' fun e w2 => e = .returned (.bool (wgOK h pb)) ∧ Ext w' w2) := fun w' hx => weighing_any (hval h A c) h pb w' (HRW.out w' (hx17.trans hx)) hs
      unfold hval at KA KB
      go_wp2_with fail
      refine KA.out.mono ?_
      rintro e w8 ⟨rfl, hx8⟩
      clear KA
      have c0 := hx8.cell c0
      have c1 := hx8.cell c1
      have c2 := hx8.cell c2
      have q0 := hx8.cell q0
      have q1 := hx8.cell q1
      cases ha : wgOK h pa with
      | false =>
        have hS1 : Sx = 1 := by rw [← HS.out]; unfold prvS; simp only [ha, Bool.false_and, if_true]
        subst hS1
        have HE2 : E = 1 := by rw [← HP2.out]; rfl
        subst HE2
        have HV2 := HV0.out
        rw [if_neg (by decide)] at HV2
        subst HV2
        clear ha HS HP2
        go_wp2
        go_ret2
        exact ⟨rfl, hxw.trans (hx7.trans hx8)⟩
      | true =>
        go_wp2_with fail
        refine (KB.out w8 hx8).mono ?_
        rintro e w9 ⟨rfl, hx9⟩
        clear KB
        have q0 := hx9.cell q0
        have q1 := hx9.cell q1
        cases hb : wgOK h pb with
        | false =>
          have hS1 : Sx = 1 := by rw [← HS.out]; unfold prvS; simp only [ha, hb, Bool.and_false, if_true]
          subst hS1
          have HE2 : E = 1 := by rw [← HP2.out]; rfl
          subst HE2
          have HV2 := HV0.out
          rw [if_neg (by decide)] at HV2
          subst HV2
          clear ha hb HS HP2
          go_wp2
          go_ret2
          exact ⟨rfl, hxw.trans ((hx7.trans hx8).trans hx9)⟩
        | true =>
          obtain ⟨a, rfl⟩ : ∃ a : Nat, pa = a := ⟨pa.toNat, by have := wgOK_iff.1 ha; omega⟩
          obtain ⟨b, rfl⟩ : ∃ b : Nat, pb = b := ⟨pb.toNat, by have := wgOK_iff.1 hb; omega⟩
          have ha14 : a < h.ws.length := by have := wgOK_iff.1 ha; omega
          have hb14 : b < h.ws.length := by have := wgOK_iff.1 hb; omega
          have hS0 : Hid (Sx = if claG h a b = false then 8 else if (inSet U a || inSet L b) = true then 5 else 0) := by
            unfold Hid
            rw [← HS.out, claG_is ha14 hb14]
            unfold prvS
            simp only [ha, hb, Bool.and_self, Int.toNat_natCast]
            rfl
          have hx79 := (hx7.trans hx8).trans hx9
          have dm := (hdr.ext hx79).at_ (show a < 14 by omega) (show b < 14 by omega)
          have hai : (a : Int) < 14 := by omega
          have hbi : (b : Int) < 14 := by omega
          have ha4 : a < 14 := by omega
          have hb4 : b < 14 := by omega
          clear ha hb HS c0 c1 c2 hp7 k hdr
          cases hc : claG h a b with
          | false =>
            rw [hc] at dm
            have hS1 : Sx = 8 := by rw [hS0.out, hc]; rfl
            subst hS1
            have HE2 : E = 8 := by rw [← HP2.out]; rfl
            subst HE2
            have HV2 := HV0.out
            rw [if_neg (by decide)] at HV2
            subst HV2
            clear hS0 hc HP2
            go_upto_region 10 with fail
            go_quiet (fail)
            go_wp2
            go_ret2
            exact ⟨rfl, Ext.drewN (hxw.trans hx79) _⟩
          | true =>
            rw [hc] at dm
            go_upto_region 10 with fail
            go_quiet (fail)
            go_upto_region 12 with fail
            obtain ⟨W10, hW10⟩ : ∃ W10, w9.drewN nq = W10 := ⟨_, rfl⟩
            have hx10 : Ext w9 W10 := by rw [← hW10]; exact Ext.drewN (Ext.refl _) _
            rw [hW10]
            clear hW10 dm
            have hxA := hx79.trans hx10
            have q0 := hx10.cell q0
            have q1 := hx10.cell q1
            have hu9 := hu.ext hxA
            have hl9 := hl.ext hxA
            have um := hu9.cell ha4
            have lm := hl9.cell hb4
            have fu := hu9.frozen a
            have fl := hl9.frozen b
            have HUX := hid hu9
            have HLX := hid hl9
            have hnew := World.block_lt_of_cell? _ _ q0
            simp only at hnew
            clear hu9 hl9 hx10
            cases hua : inSet U a with
            | true =>
              rw [hua] at um
              have hS1 : Sx = 5 := by rw [hS0.out, hc, hua]; rfl
              subst hS1
              have HE2 : E = 5 := by rw [← HP2.out]; rfl
              subst HE2
              have HV2 := HV0.out
              rw [if_neg (by decide)] at HV2
              subst HV2
              clear hS0 hc hua HP2
              go_wp2
              go_ret2
              exact ⟨rfl, hxw.trans hxA⟩
            | false =>
              rw [hua] at um
              cases hlb : inSet L b with
              | true =>
                rw [hlb] at lm
                have hS1 : Sx = 5 := by rw [hS0.out, hc, hua, hlb]; rfl
                subst hS1
                have HE2 : E = 5 := by rw [← HP2.out]; rfl
                subst HE2
                have HV2 := HV0.out
                rw [if_neg (by decide)] at HV2
                subst HV2
                clear hS0 hc hua hlb HP2
                go_wp2
                go_ret2
                exact ⟨rfl, hxw.trans hxA⟩
              | false =>
                rw [hlb] at lm
                have hS1 : Sx = 0 := by rw [hS0.out, hc, hua, hlb]; rfl
                subst hS1
                have HP3 : Hid (prvE h ((a : Int) :: U) ((b : Int) :: L) (ps.drop (n + 1)) = E) := by unfold Hid; rw [← HP2.out]; rfl
                clear hS0 hc hua hlb HP2
                have hne1 : wr.heap.size ≠ w2.heap.size := by omega
                have hne2 : wr.heap.size ≠ w2.heap.size + 1 := by omega
                go_upto_region 14 with fail
                go_region_held3 (fun w' => w'.cell? ⟨wr.heap.size, 0, none⟩ = some (.int .i64 (a : Int)) ∧ w'.cell? ⟨wr.heap.size, 1, none⟩ = some (.int .i64 (b : Int)))
                  (first | exact ⟨q0, q1⟩ | (simp [go_sem, *]))
                  ((fail))
                go_wp2
                go_roundw
                case rel => exact ⟨n + 1, (a : Int) :: U, (b : Int) :: L, by go_num, by omega, HP3, by rw [← inSet_cons]; exact ((HUX.out.set a true).other ⟨w2.heap.size + 1, b, none⟩ (.bool true) (by simp)).ext (Ext.drew (Ext.refl _)), by rw [← inSet_cons]; exact ((HLX.out.other ⟨w2.heap.size, a, none⟩ (.bool true) (by simp)).set b true).ext (Ext.drew (Ext.refl _)), (hbl.trans (Ext.belS hxA)).trans (((BelS.refl _ _).setCell _ _ (Nat.le_refl _)).setCell _ _ (Nat.le_succ _)).drew⟩
                case measure => simp [intOf]; omega
    · have hlt' : ¬ (n : Int) < (NP : Int) := by omega
      have HE2 : E = 0 := by rw [← HPR.out, List.drop_eq_nil_of_le (by rw [HNP.out]; omega)]; rfl
      subst HE2
      have HV2 := HV0.out
      rw [if_pos rfl] at HV2
      subst HV2
      go_wp2
      go_ret2
      exact ⟨rfl, hxw⟩
end Go.Proofs.YtjnobdcbbboeeaaGreat

namespace Go.Proofs.YtjnobdcbbboeeaaGreat
open Go Go.RowKit Go.Shelf Go.Maps
set_option linter.unusedVariables false
set_option linter.unusedSimpArgs false

theorem plainElem_bool_inv {H : Type} {P : Program} {e : TypeId} (he : P.underlying e = some .bool) {v : Value} {z : DataW H × List MemPlace} (h : plainElem P e v = some z) : ∃ a, v = .bool a ∧ z = (.lit (.bool a), []) := by
  unfold plainElem at h
  rw [he] at h
  cases v <;> simp at h
  subst h
  exact ⟨_, rfl, rfl⟩
theorem wpList_lookup_own_bool {H : Type} {P : Program} (w : World) {ops : Array Oper} {rest : List Oper} {o : Oper} {a : Act} {Q : Exit → Act → World → Prop}
    (hg : o.guard = none) (m x : Operand) (t : TypeId) (hop : o.op = Op.lookup t m x false)
    (k e : TypeId) (K : Keyed P k) (ht : P.underlying t = some (.map k e)) (he : P.underlying e = some .bool) (hz : (zeroValue e).run P w = .ok (.bool false) w) (b n : Nat) (D : DataW H)
    (hm : a.eval m = .map (some b)) (hown : w.ownsMap P k (plainElem P e) b n D) (key : Value) (kl : Lit) (hx : a.eval x = key) (hkey : keyOf P k key = some kl)
    (hK : ∀ c : Bool, D.atKey kl (.lit (.bool false)) = .lit (.bool c) → wpList P ops Q rest (a.put o.dst (.bool c)) w) :
    wpList P ops Q (o :: rest) a w := by
  refine wpList_plain hg fun K' hK' => ?_
  obtain ⟨v, ps, hrun, hv⟩ := hown.lookup K ht hz (plainElem_bool he false) hkey
  obtain ⟨c, rfl, hc⟩ := plainElem_bool_inv he hv
  simp only [Prod.mk.injEq] at hc
  unfold Oper.wp
  simp [execOp, hop, hm, hx, hrun, Result.andThen]
  exact hK' _ _ (hK c hc.1)

theorem keyInt : Keyed Tryz.prog 3 := int_keyed Tryz.underlying3
theorem zeroBool (w : World) : (zeroValue 4).run Tryz.prog w = .ok (.bool false) w := by kernel_rfl

/-- The map says which numbers have been met. -/
def MetIs (D : DataW Unit) (l : List Int) : Prop := ∀ x : Int, D.atKey (.int .i64 x) (.lit (.bool false)) = .lit (.bool (memI x l))
theorem memI_snoc (x y : Int) (l : List Int) : memI x (l ++ [y]) = (memI x l || x == y) := by simp [memI, List.any_append]
theorem MetIs.start : MetIs (.map []) [] := fun _ => rfl
theorem MetIs.snoc {D : DataW Unit} {l : List Int} (h : MetIs D l) (hD : IsMap D) (x : Int) : MetIs (D.put (.int .i64 x) (.lit (.bool true))) (l ++ [x]) := fun y => by
  rw [memI_snoc]
  by_cases e : y = x
  · subst e
    rw [atKey_put_same hD (show WideAt.IsKeyLit (.int .i64 y) from trivial)]; simp
  · rw [atKey_put_other (by simpa using e), h y]
    simp [e]
/-- Block M is a map that holds just the numbers of l. -/
def MapBl (w : World) (M n : Nat) (l : List Int) : Prop := ∃ D : DataW Unit, w.ownsMap Tryz.prog 3 (plainElem Tryz.prog 4) M n D ∧ MetIs D l
theorem MapBl.mono {w : World} {M n m : Nat} {l : List Int} (h : MapBl w M n l) (hm : n ≤ m) : MapBl w M m l := by
  obtain ⟨D, h1, h2⟩ := h
  exact ⟨D, h1.mono hm, h2⟩
theorem MapBl.lt {w : World} {M n : Nat} {l : List Int} (h : MapBl w M n l) : M < w.heap.size := by
  obtain ⟨D, h1, h2⟩ := h
  exact h1.lt
theorem MapBl.heap {w w' : World} {M n : Nat} {l : List Int} (h : MapBl w M n l) (he : w'.heap[M]? = w.heap[M]?) : MapBl w' M n l := by
  obtain ⟨D, h1, h2⟩ := h
  refine ⟨D, ?_, h2⟩
  unfold World.ownsMap at h1 ⊢
  rw [he]; exact h1
theorem MapBl.ext {w w' : World} {M n : Nat} {l : List Int} (h : MapBl w M n l) (hx : Ext w w') : MapBl w' M n l := h.heap (Below.block hx M h.lt)
theorem MapBl.bel {D : Nat} {w w' : World} {M n : Nat} {l : List Int} (h : MapBl w M n l) (hx : Bel D w w') (hn : M ≠ D) : MapBl w' M n l := h.heap (hx.2 M h.lt hn)
theorem MapBl.start (w : World) : MapBl (w.alloc (.map #[] 0)) w.heap.size 0 [] := ⟨.map [], World.ownsMap_made _ _ _ _, MetIs.start⟩
/-- Reading of a number. -/
theorem wpList_lookup_bl {P : Program} (hP : P = Tryz.prog) (w : World) {ops : Array Oper} {rest : List Oper} {o : Oper} {a : Act} {Q : Exit → Act → World → Prop}
    (hg : o.guard = none) (m x : Operand) (hop : o.op = Op.lookup 41 m x false) (b n : Nat) (l : List Int) (hm : a.eval m = .map (some b)) (hown : MapBl w b n l) (y : Int) (hx : a.eval x = .int .i64 y) (hy : 0 ≤ y ∧ y ≤ 1000000)
    (hK : wpList P ops Q rest (a.put o.dst (.bool (memI y l))) w) : wpList P ops Q (o :: rest) a w := by
  subst hP
  obtain ⟨D, h1, h2⟩ := hown
  have hkey : keyOf Tryz.prog 3 (.int .i64 y) = some (.int .i64 y) := keyOf_int_mk Tryz.underlying3 (WalkArith.wf_i64 (by omega))
  refine wpList_lookup_own_bool _ hg _ _ 41 hop 3 4 keyInt Tryz.underlying41 Tryz.underlying4 (zeroBool _) b n _ hm h1 _ _ hx hkey ?_
  intro c hat
  rw [h2 y] at hat
  have : memI y l = c := by simpa using hat
  rw [← this]; exact hK
/-- Marking of a number. -/
theorem wpList_mark_bl {P : Program} (hP : P = Tryz.prog) (w : World) {ops : Array Oper} {rest : List Oper} {o : Oper} {a : Act} {Q : Exit → Act → World → Prop}
    (hg : o.guard = none) (m x v : Operand) (hop : o.op = Op.mapUpdate 41 m x v) (b n : Nat) (l : List Int) (hm : a.eval m = .map (some b)) (hown : MapBl w b n l) (hn : n ≤ 1000000) (y : Int) (hx : a.eval x = .int .i64 y) (hv : a.eval v = .bool true) (hy : 0 ≤ y ∧ y ≤ 1000000)
    (hK : ∀ w', MapBl w' b (n + 1) (l ++ [y]) → BelS (fun k => k = b) w w' → wpList P ops Q rest (a.put o.dst undef) w') : wpList P ops Q (o :: rest) a w := by
  subst hP
  obtain ⟨D, h1, h2⟩ := hown
  have hkey : keyOf Tryz.prog 3 (.int .i64 y) = some (.int .i64 y) := keyOf_int_mk Tryz.underlying3 (WalkArith.wf_i64 (by omega))
  refine wpList_mapUpdate_own _ hg _ _ _ 41 hop 3 4 keyInt Tryz.underlying41 _ b n _ hm h1 (by unfold maxLen; omega) _ _ _ hx hv hkey _ [] (plainElem_bool Tryz.underlying4 true) ?_
  intro w1 hown1 hgrow1
  exact hK w1 ⟨_, hown1, h2.snoc h1.isMap y⟩ ((BelS.refl _ _).grown hgrow1 (fun k e => by cases e; rfl))
end Go.Proofs.YtjnobdcbbboeeaaGreat

namespace Go.Proofs.YtjnobdcbbboeeaaGreat
open Go Go.RowKit
set_option linter.unusedVariables false
set_option linter.unusedSimpArgs false

section
variable {P : Program}
theorem run_copy_sized (w : World) (dT sT ty elem : TypeId) (sz g o dLen dCap : Nat) (a : Addr) (sLen sCap n : Nat) (cur : Array Value) (t : TypeId) (cs : List Value)
    (hu : P.underlying dT = some (.slice elem)) (hs : (P.info? elem).map (·.size) = some sz)
    (hg : w.heap[g]? = some (.cells cur t (0, 0))) (hn : n = Nat.min sLen dLen) (hcl : cs.length = n * sz)
    (hsrc : ∀ j v, cs[j]? = some v → w.cell? (a.add j) = some v) (hfit : o + cs.length ≤ cur.size) (h1 : ∀ v ∈ cs, v.oneCell' = true) :
    (Builtin.copy_ #[dT, sT] ty #[.slice (some ⟨g, o, none⟩) dLen dCap, .slice (some a) sLen sCap]).run P w =
      .ok (goInt n) (w.setRow g (cur.toList.take o ++ cs ++ cur.toList.drop (o + cs.length)).toArray) := by
  have hl := run_loadCells_list (P := P) w a cs hsrc
  have hst := run_storeCells_at P g o t cs 0 cur w hg (by simpa using hfit) h1
  rw [hcl] at hl
  cases hq : P.info? elem with
  | none => simp [hq] at hs
  | some i =>
    have hi : i.size = sz := by simpa [hq] using hs
    simp [Builtin.copy_, run_underlying hu, Builtin.lenOf, Builtin.firstCells, sizeOf, typeInfo, hq, hi, ← hn, hl, hst]
theorem run_copy_zero (w : World) (dT sT ty elem : TypeId) (sz : Nat) (dp sp : Option Addr) (dLen dCap sLen sCap : Nat) (hu : P.underlying dT = some (.slice elem)) (hs : (P.info? elem).map (·.size) = some sz) (hn : Nat.min sLen dLen = 0) :
    (Builtin.copy_ #[dT, sT] ty #[.slice dp dLen dCap, .slice sp sLen sCap]).run P w = .ok (goInt 0) w := by
  cases hq : P.info? elem with
  | none => simp [hq] at hs
  | some i =>
    have hi : i.size = sz := by simpa [hq] using hs
    have hl : ∀ (x : Addr), (loadCells x 0).run P w = .ok #[] w := fun x => by simpa using run_loadCells_list (P := P) w x [] (by simp)
    cases dp <;> cases sp <;> simp [Builtin.copy_, run_underlying hu, Builtin.lenOf, Builtin.firstCells, sizeOf, typeInfo, hq, hi, hn, storeCells, hl]

/-- copy into a row of the call's own that is at least as long. -/
theorem run_copy_into (w : World) (dT sT ty elem e : TypeId) (sz : Nat) {B N cap g : Nat} {xs : List Value} (hu : P.underlying dT = some (.slice elem)) (hs : (P.info? elem).map (·.size) = some sz)
    (hown : w.ownsRow B e sz (.slice (some ⟨g, 0, none⟩) N cap) N xs) (A : Option Addr) (m c : Nat) (cs : List Value) (hm : m ≤ N) (hcl : cs.length = m * sz) (hr : Rd w A cs) (h1 : ∀ v ∈ cs, v.oneCell' = true) (hsz : 0 < sz) :
    ∃ w', (Builtin.copy_ #[dT, sT] ty #[.slice (some ⟨g, 0, none⟩) N cap, .slice A m c]).run P w = .ok (goInt m) w' ∧ w'.ownsRow B e sz (.slice (some ⟨g, 0, none⟩) N cap) N (cs ++ xs.drop (m * sz)) ∧ BelS (fun k => k = g) w w' := by
  have hmin : m = Nat.min m N := (Nat.min_eq_left hm).symm
  rcases Nat.eq_zero_or_pos m with h0 | h0
  · subst h0
    have hcs : cs = [] := List.eq_nil_of_length_eq_zero (by simpa using hcl)
    subst hcs
    exact ⟨w, run_copy_zero w dT sT ty elem sz _ A N cap 0 c hu hs (by simp), by simpa using hown, BelS.refl _ _⟩
  · have hne : cs ≠ [] := by
      intro e; subst e
      have := Nat.mul_pos h0 hsz
      simp at hcl; omega
    obtain ⟨b, off, rfl, hc⟩ := hr.at_ hne
    rcases hown.2 with ⟨h, _⟩ | ⟨g', cap', cur, h, hb, hg, hnc, hcm, hcs, htake⟩
    · cases h
    · cases h
      have hmN : m * sz ≤ N * sz := Nat.mul_le_mul_right sz hm
      have hNc : N * sz ≤ cap * sz := Nat.mul_le_mul_right sz hnc
      have hrun := run_copy_sized (P := P) w dT sT ty elem sz g 0 N cap ⟨b, off, none⟩ m c m cur e cs hu hs hg hmin hcl (fun j v hv => by rw [Addr.add_lit]; exact hc j v hv) (by omega) h1
      refine ⟨_, hrun, ⟨?_, .inr ⟨g, cap, _, rfl, hb, setRow_heap w g cur _ e (0, 0) hg, hnc, hcm, ?_, ?_⟩⟩, ?_⟩
      · rw [List.length_append, List.length_drop, hown.1]; omega
      · simp only [List.take_zero, List.nil_append, Nat.zero_add, List.size_toArray, List.length_append, List.length_drop, Array.length_toList]
        omega
      · simp only [List.take_zero, List.nil_append, Nat.zero_add]
        rw [← htake, List.drop_take, List.take_append, List.take_of_length_le (by omega), hcl]
      · exact ⟨⟨rfl, rfl, rfl, by simp, fun k hk => absurd hk (Nat.not_lt_zero _)⟩, fun k _ hk => setRow_other w g k _ hk⟩
theorem wpList_copy_into (w : World) {ops : Array Oper} {rest : List Oper} {o : Oper} {a : Act} {Q : Exit → Act → World → Prop} (hgd : o.guard = none) (d s : Operand) (dT sT : TypeId)
    (ho : o.op = .call { callee := .builtin .copy, args := #[d, s], argTypes := #[dT, sT] }) (elem e : TypeId) (sz : Nat) {B N cap g : Nat} {xs : List Value} (hu : P.underlying dT = some (.slice elem)) (hs : (P.info? elem).map (·.size) = some sz)
    (hd : a.eval d = .slice (some ⟨g, 0, none⟩) N cap) (hown : w.ownsRow B e sz (.slice (some ⟨g, 0, none⟩) N cap) N xs) (A : Option Addr) (m c : Nat) (cs : List Value) (hx : a.eval s = .slice A m c) (hm : m ≤ N) (hcl : cs.length = m * sz) (hr : Rd w A cs) (h1 : ∀ v ∈ cs, v.oneCell' = true) (hsz : 0 < sz)
    (h : ∀ w', w'.ownsRow B e sz (.slice (some ⟨g, 0, none⟩) N cap) N (cs ++ xs.drop (m * sz)) → BelS (fun k => k = g) w w' → wpList P ops Q rest (a.put o.dst (goInt m)) w') : wpList P ops Q (o :: rest) a w := by
  refine wpList_plain hgd fun K hK => ?_
  obtain ⟨w', hrun, h2, h3⟩ := run_copy_into (P := P) w dT sT o.type elem e sz hu hs hown A m c cs hm hcl hr h1 hsz
  unfold Oper.wp
  simp [execOp, ho, resolve, invoke, builtin, hd, hx, hrun, Result.andThen]
  exact hK _ _ (h w' h2 h3)
theorem World.ownsRow_room (w : World) {base size : Nat} {e : TypeId} (cs : Array Value) (n m : Nat) (hb : base ≤ w.heap.size) (hm : m ≤ maxLen) (hnm : n ≤ m) (hs : cs.size = m * size) :
    (w.alloc (.cells cs e)).ownsRow base e size (.slice (some ⟨w.heap.size, 0, none⟩) n m) n (cs.toList.take (n * size)) := by
  have h1 : n * size ≤ m * size := Nat.mul_le_mul_right size hnm
  exact ⟨by simp only [List.length_take, Array.length_toList]; omega, .inr ⟨w.heap.size, m, cs, rfl, hb, heap_alloc_new w _, hnm, hm, hs, rfl⟩⟩
/-- make with a length and a greater capacity. -/
theorem wpList_make_room (w : World) {ops : Array Oper} {rest : List Oper} {o : Oper} {a : Act} {Q : Exit → Act → World → Prop}
    (hg : o.guard = none) (l c : Operand) (t : TypeId) (hop : o.op = Op.makeSlice t l c)
    (base : Nat) (e : TypeId) (i : TypeInfo) (z : Value) (size : Nat) (h1 : P.underlying t = some (.slice e)) (h2 : P.info? e = some i) (h3 : i.zero = some z) (h4 : i.size = size)
    (kl kc : IntKind) (L C : Int) (n m : Nat) (hl : a.eval l = .int kl L) (hc : a.eval c = .int kc C) (hL : L = (n : Int)) (hC : C = (m : Int)) (hnm : n ≤ m) (b2 : i.bytes * m ≤ 281474976710656) (b3 : m ≤ maxLen) (b4 : base ≤ w.heap.size)
    (hK : ∀ w' xs, w'.ownsRow base e size (.slice (some ⟨w.heap.size, 0, none⟩) n m) n xs → w.grownBy w' none → wpList P ops Q rest (a.put o.dst (.slice (some ⟨w.heap.size, 0, none⟩) n m)) w') :
    wpList P ops Q (o :: rest) a w := by
  refine wpList_plain hg fun K hK' => ?_
  subst h4
  have h63' : (m : Int) ≤ 9223372036854775807 := by
    have h := b3
    simp [maxLen] at h
    omega
  have hb' : (i.bytes : Int) * (m : Int) ≤ 281474976710656 := by
    have h : ((i.bytes * m : Nat) : Int) ≤ 281474976710656 := by omega
    rwa [Int.natCast_mul] at h
  have hr := run_make (P := P) w t e i z h1 h2 h3 kl kc n m (by omega) (by omega) hb' h63'
  simp only [Int.toNat_natCast] at hr
  subst hL
  subst hC
  unfold Oper.wp
  simp [execOp, hop, hl, hc, hr, Result.andThen]
  exact hK' _ _ (hK _ _ (World.ownsRow_room w _ n m b4 b3 hnm (size_madeCells _ _)) (World.grownBy_alloc w _ none))
end
end Go.Proofs.YtjnobdcbbboeeaaGreat

namespace Go.Proofs.YtjnobdcbbboeeaaGreat
open Go Go.RowKit Go.Shelf
set_option linter.unusedVariables false
set_option linter.unusedSimpArgs false

theorem heap_setW {w : World} {D i : Nat} {cs : Array Value} {T : TypeId} (h : w.heap[D]? = some (.cells cs T (0, 0))) (v : Value) : (w.setCell ⟨D, i, none⟩ v).heap[D]? = some (.cells (cs.setIfInBounds i v) T (0, 0)) := by
  simp [World.setCell, Array.getElem?_modify, h]
/-- A house laid into a block anew. -/
theorem put_house {a w : World} {B : Nat} {u0 u1 u2 v0 v1 v2 : Value} {T : TypeId} (h : w.heap[B]? = some (.cells #[u0, u1, u2] T (0, 0))) (hx : Ext a w) (hB : a.heap.size ≤ B) :
    ∃ W, (((w.setCell ⟨B, 0, none⟩ v0).setCell ⟨B, 1, none⟩ v1).setCell ⟨B, 2, none⟩ v2) = W ∧ W.heap[B]? = some (.cells #[v0, v1, v2] T (0, 0)) ∧ Ext a W ∧ BelS (fun k => k = B) w W := by
  have hb0 : BelS (fun k => k = B) w (w.setCell ⟨B, 0, none⟩ v0) := BelS.setCell (BelS.refl _ w) ⟨B, 0, none⟩ v0 rfl
  have hb1 : BelS (fun k => k = B) w ((w.setCell ⟨B, 0, none⟩ v0).setCell ⟨B, 1, none⟩ v1) := BelS.setCell hb0 ⟨B, 1, none⟩ v1 rfl
  have hb : BelS (fun k => k = B) w (((w.setCell ⟨B, 0, none⟩ v0).setCell ⟨B, 1, none⟩ v1).setCell ⟨B, 2, none⟩ v2) := BelS.setCell hb1 ⟨B, 2, none⟩ v2 rfl
  refine ⟨_, rfl, ?_, ((Ext.belS (S := fun k => k = B) hx).trans hb).ext (fun k hk hS => by omega), hb⟩
  exact heap_setW (heap_setW (heap_setW h v0) v1) v2
theorem house_cells {w : World} {B : Nat} {v0 v1 v2 : Value} {T : TypeId} (h : w.heap[B]? = some (.cells #[v0, v1, v2] T (0, 0))) : w.cell? ⟨B, 0, none⟩ = some v0 ∧ w.cell? ⟨B, 1, none⟩ = some v1 ∧ w.cell? ⟨B, 2, none⟩ = some v2 ∧ ∀ i, w.frozen? ⟨B, i, none⟩ = false :=
  ⟨by rw [cell_of_row w B 0 _ _ _ h]; rfl, by rw [cell_of_row w B 1 _ _ _ h]; rfl, by rw [cell_of_row w B 2 _ _ _ h]; rfl, fun i => by simp [World.frozen?, h]⟩
theorem witE_congr (h : Hs) : ∀ (l g g' : List Int), (∀ x, memI x g = memI x g') → witE h g l = witE h g' l
  | [], _, _, _ => rfl
  | n :: l, g, g', e => by
    unfold witE
    rw [e n, witE_congr h l (n :: g) (n :: g') fun x => by
      rw [Bool.eq_iff_iff, mem_memI, mem_memI, List.mem_cons, List.mem_cons, ← mem_memI, ← mem_memI, e x]]
/-- The first k weighings without some. -/
def keepK (h : Hs) (l : List Int) (k : Nat) : List Wg := ((List.range k).filter fun (i : Nat) => !memI (i : Int) l).map (wgAt h)
theorem keepK_next (h : Hs) (l : List Int) (k : Nat) : keepK h l (k + 1) = keepK h l k ++ if memI (k : Int) l = true then [] else [wgAt h k] := by
  unfold keepK
  rw [List.range_succ, List.filter_append, List.map_append]
  congr 1
  cases e : memI (k : Int) l <;> simp [e]
theorem keepK_len (h : Hs) (l : List Int) (k : Nat) : (keepK h l k).length ≤ k := by
  unfold keepK
  rw [List.length_map]
  exact Nat.le_trans (List.length_filter_le _ _) (by simp)
set_option maxRecDepth 100000 in
set_option maxHeartbeats 8000000 in
theorem without_any (v : Value) (h : Hs) (w : World) (hr : HsR w v h) (hs : h.sized) (Ap : Option Addr) (cp : Nat) (l : List Int) (hA : Ints w Ap l) (hl : l.length ≤ 1000000) :
    Calls Tryz.prog 13 #[v, .slice Ap l.length cp] w fun e w' => ∃ A c, e = .returned (.tuple #[hval (wthV h l) A c, .int .i64 (wthE h l)]) ∧ Ext w w' ∧ w'.ownsRow w.heap.size 67 5 (.slice A (wthV h l).ws.length c) (wthV h l).ws.length (layWg.rows (wthV h l).ws) := by
  obtain ⟨A, c, rfl, hrw, hcap⟩ := hr
  obtain ⟨T, hT⟩ : ∃ T, checkH h = T := ⟨_, rfl⟩
  obtain ⟨w1, hw1⟩ : ∃ w1, (w.alloc (.cells #[.int .i64 h.mo, .int .i64 h.pk, .slice A h.ws.length c] 25)).alloc (.cells #[.int .i64 0, .int .i64 0, .slice none 0 0] 25) = w1 := ⟨_, rfl⟩
  have hx1 : Ext w w1 := by rw [← hw1]; exact (Ext.refl w).alloc _ |>.alloc _
  have b1 : w1.heap[w.heap.size]? = some (.cells #[.int .i64 h.mo, .int .i64 h.pk, .slice A h.ws.length c] 25 (0, 0)) := by rw [← hw1]; exact (Below.heap_alloc _ _ _ (by simp)).trans (heap_alloc_new w _)
  have b2 : w1.heap[w.heap.size + 1]? = some (.cells #[.int .i64 0, .int .i64 0, .slice none 0 0] 25 (0, 0)) := by
    rw [← hw1]
    have q := heap_alloc_new (w.alloc (.cells #[.int .i64 h.mo, .int .i64 h.pk, .slice A h.ws.length c] 25)) (.cells #[.int .i64 0, .int .i64 0, .slice none 0 0] 25)
    rw [World.size_alloc] at q
    exact q
  have FH : Hid (∀ w', Ext w1 w' → w'.cell? ⟨w.heap.size, 0, none⟩ = some (.int .i64 h.mo) ∧ w'.cell? ⟨w.heap.size, 1, none⟩ = some (.int .i64 h.pk) ∧ w'.cell? ⟨w.heap.size, 2, none⟩ = some (.slice A h.ws.length c)) := fun w' hx =>
    ⟨hx.cell (by rw [cell_of_row w1 w.heap.size 0 _ _ _ b1]; rfl), hx.cell (by rw [cell_of_row w1 w.heap.size 1 _ _ _ b1]; rfl), hx.cell (by rw [cell_of_row w1 w.heap.size 2 _ _ _ b1]; rfl)⟩
  have HRW : Hid (∀ w', Ext w1 w' → Wgs w' A h.ws) := fun w' hx => Rows.ext hrw (hx1.trans hx)
  have HLS : Hid (∀ w', Ext w1 w' → Ints w' Ap l) := fun w' hx => hA.ext (hx1.trans hx)
  have KC := hid (check_any (hval h A c) h w1 ⟨A, c, rfl, HRW.out _ (Ext.refl _), hcap⟩ hs)
  unfold hval at KC
  rw [hT] at KC
  have HT := hid hT
  obtain ⟨E, hE⟩ : ∃ E, wthE h l = E := ⟨_, rfl⟩
  obtain ⟨V, hV⟩ : ∃ V, wthV h l = V := ⟨_, rfl⟩
  have HE : Hid ((T ≠ 0 → E = T) ∧ (T = 0 → witE h [] l = E) ∧ V = if E = 0 then { h with ws := keepW h l } else ⟨0, 0, []⟩) := by
    refine ⟨fun e => ?_, fun e => ?_, ?_⟩
    · rw [← hE]; unfold wthE; rw [hT, if_pos e]
    · rw [← hE]; unfold wthE; rw [hT, if_neg (by simp [e])]
    · rw [← hV, ← hE]; rfl
  rw [hE, hV]
  have HW1 := hid hw1
  have hBl : w.heap.size + 1 < w1.heap.size := (Array.getElem?_eq_some_iff.1 b2).1
  have HB1 := hid b1
  have HB2 := hid b2
  clear hw1 hT hrw b1 b2 hE hV hA
  have HERR : Hid (∀ (w3 : World), Ext w1 w3 → ∃ W, (((w3.setCell ⟨w.heap.size + 1, 0, none⟩ (.int .i64 0)).setCell ⟨w.heap.size + 1, 1, none⟩ (.int .i64 0)).setCell ⟨w.heap.size + 1, 2, none⟩ (.slice none 0 0)) = W ∧ W.heap[w.heap.size + 1]? = some (.cells #[.int .i64 0, .int .i64 0, .slice none 0 0] 25 (0, 0)) ∧ Ext w W ∧ BelS (fun k => k = w.heap.size + 1) w3 W) := fun w3 hx =>
    put_house ((Below.block hx _ hBl).trans HB2.out) (hx1.trans hx) (by omega)
  unfold hval
  go_enter Tryz.func13, Tryz.ntmps13
  go_upto_region 1 with fail
  rw [HW1.out]
  clear HW1
  obtain ⟨c0, c1, c2⟩ := FH.out w1 (Ext.refl _)
  go_wp2_with fail
  refine KC.out.mono ?_
  rintro e w2 ⟨rfl, h2⟩
  have hx2 := hx1.trans h2
  clear KC c0 c1 c2
  by_cases h0 : T = 0
  case neg =>
    have h0b : (T != 0) = true := by simpa using h0
    have HL := HE.out.1 h0
    have HV := HE.out.2.2
    rw [HL, if_neg h0] at HV
    subst HL
    subst HV
    obtain ⟨z0, z1, z2, fz⟩ := house_cells ((Below.block h2 _ hBl).trans HB2.out)
    obtain ⟨W, hW, q1, q2, -⟩ := HERR.out w2 h2
    have r0 : W.cell? ⟨w.heap.size + 1, 0, none⟩ = some (.int .i64 0) := by rw [cell_of_row W _ 0 _ _ _ q1]; rfl
    have r1 : W.cell? ⟨w.heap.size + 1, 1, none⟩ = some (.int .i64 0) := by rw [cell_of_row W _ 1 _ _ _ q1]; rfl
    have r2 : W.cell? ⟨w.heap.size + 1, 2, none⟩ = some (.slice none 0 0) := by rw [cell_of_row W _ 2 _ _ _ q1]; rfl
    go_wp2
    try rw [hW]
    refine bodyPost_ret (v := .tuple #[.agg #[.int .i64 0, .int .i64 0, .slice none 0 0], .int .i64 E]) ?_ rfl ⟨none, 0, rfl, q2, own_nil _ _ _ _⟩
    simp [results, Tryz.results13, go_sem, r0, r1, r2]
  subst h0
  have HP0 : Hid (witE h (l.take 0) (l.drop 0) = E) := HE.out.2.1 rfl
  have HV0 := hid HE.out.2.2
  have k := checkH_ok HT.out
  have hlen := k.len
  clear HE
  obtain ⟨W3, hW3⟩ : ∃ W3, w2.alloc (.map #[] 0) = W3 := ⟨_, rfl⟩
  have hx3 : Ext w2 W3 := by rw [← hW3]; exact Ext.alloc (Ext.refl _) _
  have hm3 : MapBl W3 w2.heap.size 0 (l.take 0) := by rw [← hW3]; exact MapBl.start _
  have hz3 : W3.heap.size = w2.heap.size + 1 := by rw [← hW3]; simp
  obtain ⟨NP, hNP⟩ : ∃ NP : Nat, l.length = NP := ⟨_, rfl⟩
  have HNP := hid hNP
  rw [hNP] at hl ⊢
  clear hNP
  have hmm := @run_makeMap Tryz.prog
  go_upto_region 5 with fail
  try rw [hW3]
  clear hW3
  go_wp2_with fail
  go_loopw [22] (fun i wr => ∃ (n : Nat), i = .int .i64 (n : Int) ∧ n ≤ NP ∧ Hid (witE h (l.take n) (l.drop n) = E) ∧ MapBl wr w2.heap.size n (l.take n) ∧ BelS (fun k => k = w2.heap.size) W3 wr) (fun i _ => NP - (intOf i).toNat)
  case atStart => exact ⟨0, rfl, Nat.zero_le _, HP0, hm3, BelS.refl _ _⟩
  case round =>
    obtain ⟨n, rfl, hnP, HPR, hm, hbl⟩ := hrel
    have hz2 := h2.size
    have hx1r : Ext w1 wr := h2.trans (((Ext.belS hx3).trans hbl).ext fun k hk hS => by omega)
    by_cases hlt : n < NP
    · have hlt' : (n : Int) < (NP : Int) := by omega
      obtain ⟨y, hy⟩ := get_of_lt l n (by rw [HNP.out]; exact hlt)
      obtain ⟨b, off, rfl, ky⟩ := Ints.at_ (HLS.out wr hx1r) hy
      have HPD : Hid ((if wgOK h y = false then 1 else if memI y (l.take n) then 5 else witE h (l.take (n + 1)) (l.drop (n + 1))) = E) := by
        unfold Hid
        rw [← HPR.out, show l.drop n = y :: l.drop (n + 1) from by rw [List.drop_eq_getElem_cons (i := n) (by rw [HNP.out]; exact hlt), (List.getElem?_eq_some_iff.1 hy).2]]
        rw [witE, witE_congr h (l.drop (n + 1)) (y :: l.take n) (l.take (n + 1)) fun x => by
          rw [Bool.eq_iff_iff, mem_memI, mem_memI, List.take_add_one, hy]; simp [or_comm]]
      have HTK : Hid (l.take n ++ [y] = l.take (n + 1)) := by unfold Hid; rw [List.take_add_one, hy]; rfl
      clear hy HPR
      obtain ⟨c0, c1, c2⟩ := FH.out wr hx1r
      have KA := hid (weighing_any (hval h A c) h y wr ⟨A, c, rfl, HRW.out _ hx1r, hcap⟩ hs)
      unfold hval at KA
      go_wp2_with fail
      refine KA.out.mono ?_
      rintro e w8 ⟨rfl, hx8⟩
      clear KA c0 c1 c2
      have hm8 := hm.ext hx8
      have hx18 := hx1r.trans hx8
      obtain ⟨z0, z1, z2, fz⟩ := house_cells ((Below.block hx18 _ hBl).trans HB2.out)
      cases ha : wgOK h y with
      | false =>
        have HE2 : E = 1 := by rw [← HPD.out, ha]; rfl
        subst HE2
        have HV := HV0.out
        rw [if_neg (by decide)] at HV
        subst HV
        obtain ⟨W, hW, q1, q2, -⟩ := HERR.out w8 hx18
        have r0 : W.cell? ⟨w.heap.size + 1, 0, none⟩ = some (.int .i64 0) := by rw [cell_of_row W _ 0 _ _ _ q1]; rfl
        have r1 : W.cell? ⟨w.heap.size + 1, 1, none⟩ = some (.int .i64 0) := by rw [cell_of_row W _ 1 _ _ _ q1]; rfl
        have r2 : W.cell? ⟨w.heap.size + 1, 2, none⟩ = some (.slice none 0 0) := by rw [cell_of_row W _ 2 _ _ _ q1]; rfl
        clear ha HPD
        go_wp2
        try rw [hW]
        refine bodyPost_ret (v := .tuple #[.agg #[.int .i64 0, .int .i64 0, .slice none 0 0], .int .i64 1]) ?_ rfl ⟨none, 0, rfl, q2, own_nil _ _ _ _⟩
        simp [results, Tryz.results13, go_sem, r0, r1, r2]
      | true =>
        have hyr : 0 ≤ y ∧ y ≤ 1000000 := by have := wgOK_iff.1 ha; omega
        go_upto_region 10 with fail
        cases hb : memI y (l.take n) with
        | true =>
          have HE2 : E = 5 := by rw [← HPD.out, ha, hb]; rfl
          subst HE2
          have HV := HV0.out
          rw [if_neg (by decide)] at HV
          subst HV
          obtain ⟨W, hW, q1, q2, -⟩ := HERR.out w8 hx18
          have r0 : W.cell? ⟨w.heap.size + 1, 0, none⟩ = some (.int .i64 0) := by rw [cell_of_row W _ 0 _ _ _ q1]; rfl
          have r1 : W.cell? ⟨w.heap.size + 1, 1, none⟩ = some (.int .i64 0) := by rw [cell_of_row W _ 1 _ _ _ q1]; rfl
          have r2 : W.cell? ⟨w.heap.size + 1, 2, none⟩ = some (.slice none 0 0) := by rw [cell_of_row W _ 2 _ _ _ q1]; rfl
          have HBB := hid hb
          clear ha hb HPD
          go_wp2_with (at_lookup; refine wpList_lookup_bl rfl _ rfl _ _ rfl w2.heap.size n (l.take n) rfl hm8 y rfl hyr ?_; rw [HBB.out])
          try rw [hW]
          refine bodyPost_ret (v := .tuple #[.agg #[.int .i64 0, .int .i64 0, .slice none 0 0], .int .i64 5]) ?_ rfl ⟨none, 0, rfl, q2, own_nil _ _ _ _⟩
          simp [results, Tryz.results13, go_sem, r0, r1, r2]
        | false =>
          have HPN : Hid (witE h (l.take (n + 1)) (l.drop (n + 1)) = E) := by unfold Hid; rw [← HPD.out, ha, hb]; rfl
          have HBB := hid hb
          clear ha hb HPD
          go_wp2_with (first | (at_lookup; refine wpList_lookup_bl rfl _ rfl _ _ rfl w2.heap.size n (l.take n) rfl hm8 y rfl hyr ?_; rw [HBB.out]) | (at_mapUpdate; refine wpList_mark_bl rfl _ rfl _ _ _ rfl w2.heap.size n (l.take n) rfl hm8 (by omega) y rfl rfl hyr ?_; intro w9 hm9 hb9; rw [HTK.out] at hm9))
          go_roundw
          case rel => exact ⟨n + 1, by go_num, by omega, HPN, hm9, (hbl.trans (Ext.belS hx8)).trans hb9⟩
          case measure => simp [intOf]; omega
    · have hlt' : ¬ (n : Int) < (NP : Int) := by omega
      have hnn : NP ≤ n := by omega
      have HE2 : E = 0 := by rw [← HPR.out, List.drop_eq_nil_of_le (by rw [HNP.out]; omega)]; rfl
      subst HE2
      have HV := HV0.out
      rw [if_pos rfl] at HV
      rw [List.take_of_length_le (by rw [HNP.out]; exact hnn)] at hm
      have b1r := (Below.block hx1r _ (by omega)).trans HB1.out
      have b2r := (Below.block hx1r _ hBl).trans HB2.out
      have hm5 := hm
      have hRA := HRW.out wr hx1r
      have hz1r := hx1r.size
      have hmlt := hm.lt
      have hzBh : w.heap.size + 1 ≤ w2.heap.size := by omega
      obtain ⟨-, ⟨ti, tz, hti, htz, htsize, htby, htzs⟩, -, -⟩ := elem_wg
      obtain ⟨N, hN⟩ : ∃ N : Nat, h.ws.length = N := ⟨_, rfl⟩
      have HN := hid hN
      have hb2' : Hid (ti.bytes * N ≤ 281474976710656) := by unfold Hid; rw [htby]; omega
      have hm1 : Hid (N ≤ maxLen) := by unfold Hid maxLen; omega
      have H4 := hid hti
      have H5 := hid htz
      have H6 := hid htsize
      obtain ⟨c0, c1, c2, fz⟩ := house_cells b1r
      have HB1R := hid b1r
      have HB2R := hid b2r
      have HM := hid hm5
      have HRA := hid hRA
      rw [hN] at hlen
      clear hti htz htsize htby htzs hm hm5 b1r b2r hRA HPR HP0
      simp only [hN] at c2 HB1R ⊢
      obtain ⟨Ba, hBa⟩ : ∃ Ba, wr.heap.size = Ba := ⟨_, rfl⟩
      go_wp2_with (at_make; refine wpList_make_room _ rfl _ _ 23 rfl wr.heap.size 67 ti tz 5 Tryz.underlying23 H4.out H5.out H6.out .i64 .i64 (N : Int) (N : Int) N N rfl rfl rfl rfl (Nat.le_refl _) hb2'.out hm1.out (Nat.le_refl _) ?_)
      clear c0 c1 c2 fz
      intro w20 zs20 own20 gr20
      have V0 : Ext wr w20 := Ext.grown (Ext.refl _) gr20 (fun j e => by cases e)
      try rw [hBa] at own20
      try rw [hBa]
      have OL := hid own20
      clear own20 gr20
      obtain ⟨c0, c1, c2, fz⟩ := house_cells ((Below.block V0 _ (by omega)).trans HB1R.out)
      go_wp2_with (refine wpList_copy_into _ rfl _ _ 23 23 rfl 67 67 5 Tryz.underlying23 (by kernel_rfl) rfl OL.out A N c (layWg.rows h.ws) rfl (Nat.le_refl _) (by rw [layWg.rows_len, HN.out]; rfl) (Rd.ext HRA.out V0) (layWg.rows_one _) (by decide) ?_)
      clear c0 c1 c2 fz
      intro w21 own21 bel21
      have V1 : Ext wr w21 := (BelS.trans (Ext.belS V0) bel21).ext (fun j hj e => by omega)
      have OL1 : Hid (w21.ownsRow Ba 67 5 (.slice (some ⟨Ba, 0, none⟩) N N) N (layWg.rows h.ws)) := by
        unfold Hid
        have h1 := own_len OL.out
        rw [List.drop_eq_nil_of_le (by omega), List.append_nil] at own21
        exact own21
      clear own21 bel21 OL V0 HRA
      obtain ⟨c0, c1, c2, fz⟩ := house_cells ((Below.block V1 _ (by omega)).trans HB1R.out)
      obtain ⟨W5, hW5⟩ : ∃ W5, w21.setCell ⟨w.heap.size, 2, none⟩ (.slice none 0 0) = W5 := ⟨_, rfl⟩
      have hb5 : Bel w.heap.size w21 W5 := by rw [← hW5]; exact (Bel.refl _ _).setCell 2 _
      have k5 : W5.heap[w.heap.size]? = some (.cells #[.int .i64 h.mo, .int .i64 h.pk, .slice none 0 0] 25 (0, 0)) := by
        rw [← hW5]; exact heap_setW ((Below.block V1 _ (by omega)).trans HB1R.out) _
      go_upto_region 17 with fail
      try rw [hW5]
      clear hW5 c0 c1 c2 fz
      have hzV := V1.size
      have hz5 := hb5.size
      have HRA : Hid (∀ w', Bel w.heap.size W5 w' → Wgs w' (some ⟨Ba, 0, none⟩) h.ws) := fun w' hb => (hb5.trans hb).rd (Rd.of_own OL1.out) (fun a ha => by cases ha; show Ba ≠ w.heap.size; omega)
      have HM5 : Hid (MapBl W5 w2.heap.size n l) := (HM.out.ext V1).bel hb5 (by omega)
      have HB25 : Hid (W5.heap[w.heap.size + 1]? = some (.cells #[.int .i64 0, .int .i64 0, .slice none 0 0] 25 (0, 0))) := hb5.heap ((Below.block V1 _ (by omega)).trans HB2R.out) (by omega)
      have HX5 : Hid (BelS (fun k => w.heap.size ≤ k) w W5) := (Ext.belS (hx1.trans (hx1r.trans V1))).trans (hb5.belS (Nat.le_refl _))
      have hBa5 : Ba < W5.heap.size := by have := (OL1.out.lt Ba rfl).2; omega
      clear HM HB2R HB1R OL1 V1 hb5 hbl hx1r FH HRW HB1 HB2 HERR HLS
      have hK0 : ((keepK h l 0).length = 0) := rfl
      go_wp2_with fail
      have hz15 : w.heap.size + 1 < W5.heap.size := by omega
      clear hzV hz5 hz1r hBa hzBh
      have hnN : n ≤ 1000000 := by omega
      clear hlt hlt' hnP hnn
      go_loopw [51] (fun i wr => ∃ (k n' : Nat) (A' : Option Addr) (c' : Nat), i = .int .i64 (k : Int) ∧ k ≤ N ∧ Hid ((keepK h l k).length = n') ∧ n' ≤ k ∧ wr.heap[w.heap.size]? = some (.cells #[.int .i64 h.mo, .int .i64 h.pk, .slice A' n' c'] 25 (0, 0)) ∧ wr.ownsRow W5.heap.size 67 5 (.slice A' n' c') n' (layWg.rows (keepK h l k)) ∧ Bel w.heap.size W5 wr) (fun i _ => N - (intOf i).toNat)
      case atStart => exact ⟨0, 0, none, 0, rfl, Nat.zero_le _, hK0, Nat.le_refl _, k5, own_nil _ _ _ _, Bel.refl _ _⟩
      case round =>
        obtain ⟨k, n', A', c', rfl, hk, HKL, hnk, hbh, ho, hbl⟩ := hrel
        by_cases hlt : k < N
        · have hlt' : (k : Int) < (N : Int) := by omega
          obtain ⟨x, hx⟩ := get_of_lt h.ws k (by rw [HN.out]; exact hlt)
          obtain ⟨b, off, hAx, e0, e1, e2, e3, e4⟩ := Wgs.at_ (HRA.out wr hbl) hx
          cases hAx
          have HX : Hid (wgAt h k = x) := by unfold Hid wgAt; rw [List.getD_eq_getElem?_getD, hx]; rfl
          simp only [Nat.zero_add] at e0 e1 e2 e3 e4
          clear hx
          go_upto_region 20 with fail
          obtain ⟨W7, hW7⟩ : ∃ W7, wr.alloc (.cells #[.int .i64 x.mo, .int .i64 x.sl, .int .i64 x.sh, .int .i64 x.ml, .int .i64 x.mh] 67) = W7 := ⟨_, rfl⟩
          have hx7 : Ext wr W7 := by rw [← hW7]; exact (Ext.refl _).alloc _
          have hp7 : W7.heap[wr.heap.size]? = some (.cells #[.int .i64 x.mo, .int .i64 x.sl, .int .i64 x.sh, .int .i64 x.ml, .int .i64 x.mh] 67 (0, 0)) := by rw [← hW7]; exact heap_alloc_new _ _
          try rw [hW7]
          clear hW7 e0 e1 e2 e3 e4
          have hlr := hbl.size
          have hm7 : MapBl W7 w2.heap.size n l := (HM5.out.bel hbl (by omega)).ext hx7
          have hkr : (0 : Int) ≤ (k : Int) ∧ (k : Int) ≤ 1000000 := by omega
          have hbh7 := (Below.block hx7 _ (by omega)).trans hbh
          have ho7 := own_below ho hx7
          have hbl7 := hbl.trans (Ext.bel hx7)
          cases hin : memI (k : Int) l with
          | true =>
            have HNX : Hid (keepK h l (k + 1) = keepK h l k) := by unfold Hid; rw [keepK_next, hin]; simp
            have HIN := hid hin
            clear hin hp7 hbh ho hbl
            go_wp2_with (at_lookup; refine wpList_lookup_bl rfl _ rfl _ _ rfl w2.heap.size n l rfl hm7 k rfl hkr ?_; rw [HIN.out])
            go_roundw
            case rel => exact ⟨k + 1, n', A', c', by go_num, by omega, by unfold Hid; rw [HNX.out]; exact HKL.out, by omega, hbh7, by rw [HNX.out]; exact ho7, hbl7⟩
            case measure => simp [intOf]; omega
          | false =>
            have HNX : Hid (keepK h l (k + 1) = keepK h l k ++ [x]) := by unfold Hid; rw [keepK_next, hin, HX.out]; simp
            have HIN := hid hin
            have q0 : W7.cell? ⟨wr.heap.size, 0, none⟩ = some (.int .i64 x.mo) := by rw [cell_of_row W7 _ 0 _ _ _ hp7]; rfl
            have q1 : W7.cell? ⟨wr.heap.size, 1, none⟩ = some (.int .i64 x.sl) := by rw [cell_of_row W7 _ 1 _ _ _ hp7]; rfl
            have q2 : W7.cell? ⟨wr.heap.size, 2, none⟩ = some (.int .i64 x.sh) := by rw [cell_of_row W7 _ 2 _ _ _ hp7]; rfl
            have q3 : W7.cell? ⟨wr.heap.size, 3, none⟩ = some (.int .i64 x.ml) := by rw [cell_of_row W7 _ 3 _ _ _ hp7]; rfl
            have q4 : W7.cell? ⟨wr.heap.size, 4, none⟩ = some (.int .i64 x.mh) := by rw [cell_of_row W7 _ 4 _ _ _ hp7]; rfl
            obtain ⟨c0, c1, c2, fz⟩ := house_cells hbh7
            have hz7 := hx7.size
            clear hin hp7 hbh ho hbl
            go_wp2_with (first | (at_lookup; refine wpList_lookup_bl rfl _ rfl _ _ rfl w2.heap.size n l rfl hm7 k rfl hkr ?_; rw [HIN.out]) | (at_builtin; refine wpList_append_rd2 _ rfl _ _ 23 rfl elem_wg W5.heap.size _ n' (layWg.rows (keepK h l k)) rfl (own_below ho7 (Ext.alloc (Ext.refl _) _)) (some ⟨W7.heap.size, 0, none⟩) 1 1 (layWg.cells x) rfl rfl (rd_blk2 (heap_alloc_new W7 _)) (layWg.one x) (by omega) (by simp; omega) ?_))
            intro A5 c5 w8 own8 bel8 gr8 at8
            obtain ⟨W8, hW8⟩ : ∃ W8, W7.alloc (.cells (layWg.cells x).toArray 67) = W8 := ⟨_, rfl⟩
            have hx8 : Ext W7 W8 := by rw [← hW8]; exact Ext.alloc (Ext.refl _) _
            have gr8' : W8.grownBy w8 (Value.slice A' n' c').ownBlock := by rw [← hW8]; exact gr8
            have hS8 : BelS (fun j => (Value.slice A' n' c').ownBlock = some j) W8 w8 := (BelS.refl _ W8).grown gr8' (fun k e => e)
            have hne : Hid (∀ j, (Value.slice A' n' c').ownBlock = some j → W5.heap.size ≤ j) := fun j hj => (ho7.lt j hj).1
            have hbl8 : Bel w.heap.size W5 w8 := (hbl7.trans (Ext.bel hx8)).then_ hS8 (fun i hi hs => by have := hne.out i hs; omega)
            have hbh8 : w8.heap[w.heap.size]? = some (.cells #[.int .i64 h.mo, .int .i64 h.pk, .slice A' n' c'] 25 (0, 0)) := hS8.heap ((Below.block hx8 _ (by omega)).trans hbh7) (fun e => by have := hne.out _ e; omega)
            rw [← layWg.rows_single, ← layWg.rows_app, ← HNX.out] at own8
            have HO8 := hid own8
            clear own8 gr8 gr8' at8 bel8 hW8 c0 c1 c2 fz
            obtain ⟨c0, c1, c2, fz⟩ := house_cells hbh8
            go_wp2
            go_roundw
            case rel =>
              refine ⟨k + 1, n' + 1, A5, c5, by go_num, by omega, ?_, by omega, ?_, ?_, ?_⟩
              · unfold Hid; rw [HNX.out, List.length_append, HKL.out]; rfl
              · exact heap_setW hbh8 _
              · exact ((Bel.refl w.heap.size w8).setCell 2 _).own HO8.out (fun g hg => by have := (HO8.out.lt g hg).1; omega)
              · exact hbl8.setCell 2 _
            case measure => simp [intOf]; omega
        · have hlt' : ¬ (k : Int) < (N : Int) := by omega
          obtain rfl : k = N := by omega
          have hlr := hbl.size
          obtain ⟨c0, c1, c2, fz0⟩ := house_cells hbh
          have hbr := hbl.heap HB25.out (by omega)
          obtain ⟨z0, z1, z2, fz1⟩ := house_cells hbr
          obtain ⟨W, hW, q1, -, q2⟩ := put_house (a := w) (v0 := .int .i64 h.mo) (v1 := .int .i64 h.pk) (v2 := .slice A' n' c') hbr ((HX5.out.trans (hbl.belS (Nat.le_refl _))).ext (fun j hj hS => by omega)) (by omega)
          have hV2 : V = { h with ws := keepK h l k } := by rw [HV, ← HN.out]; rfl
          subst hV2
          obtain ⟨r0, r1, r2, -⟩ := house_cells q1
          have hE9 : Ext w W := (((HX5.out.trans (hbl.belS (Nat.le_refl _))).trans (q2.mono (fun j _ hj => by subst hj; exact Nat.le_succ _))).ext (fun j hj hS => by omega))
          go_wp2
          try rw [hW]
          refine bodyPost_ret (v := .tuple #[.agg #[.int .i64 h.mo, .int .i64 h.pk, .slice A' n' c'], .int .i64 0]) ?_ rfl ⟨A', c', by simp only [HKL.out], hE9, ?_⟩
          · simp [results, Tryz.results13, go_sem, r0, r1, r2]
          · show W.ownsRow _ _ _ (.slice A' (keepK h l k).length c') (keepK h l k).length _
            rw [HKL.out]
            exact q2.own (own_base ho (by omega)) (fun g hg e => by have := (ho.lt g hg).1; omega)
end Go.Proofs.YtjnobdcbbboeeaaGreat

namespace Go.Proofs.YtjnobdcbbboeeaaGreat
open Go Go.RowKit Go.Shelf
set_option linter.unusedVariables false
set_option linter.unusedSimpArgs false

theorem rd_newW (w : World) (xs : List Value) (T : TypeId) (n : Nat) (h : w.heap.size = n) : Rd (w.alloc (.cells xs.toArray T)) (some ⟨n, 0, none⟩) xs := by
  subst h; exact rd_blk2 (heap_alloc_new w _)
set_option maxRecDepth 100000 in
set_option maxHeartbeats 1000000 in
theorem weighed_any (m a b c d : Int) (w : World) : Calls Tryz.prog 25 #[.int .i64 m, .int .i64 a, .int .i64 b, .int .i64 c, .int .i64 d] w fun e w' => e = .returned (Wg.val ⟨m, a, b, c, d⟩) ∧ Ext w w' := by
  go_enter Tryz.func25, Tryz.ntmps25
  go_wp2
  obtain ⟨W1, hW1⟩ : ∃ W1, w.alloc (.cells #[.int .i64 m, .int .i64 a, .int .i64 b, .int .i64 c, .int .i64 d] 67) = W1 := ⟨_, rfl⟩
  have x1 : Ext w W1 := by rw [← hW1]; exact Ext.alloc (Ext.refl w) _
  have hb : W1.heap[w.heap.size]? = some (.cells #[.int .i64 m, .int .i64 a, .int .i64 b, .int .i64 c, .int .i64 d] 67 (0, 0)) := by rw [← hW1]; exact heap_alloc_new w _
  have q0 : W1.cell? ⟨w.heap.size, 0, none⟩ = some (.int .i64 m) := by rw [cell_of_row W1 _ 0 _ _ _ hb]; rfl
  have q1 : W1.cell? ⟨w.heap.size, 1, none⟩ = some (.int .i64 a) := by rw [cell_of_row W1 _ 1 _ _ _ hb]; rfl
  have q2 : W1.cell? ⟨w.heap.size, 2, none⟩ = some (.int .i64 b) := by rw [cell_of_row W1 _ 2 _ _ _ hb]; rfl
  have q3 : W1.cell? ⟨w.heap.size, 3, none⟩ = some (.int .i64 c) := by rw [cell_of_row W1 _ 3 _ _ _ hb]; rfl
  have q4 : W1.cell? ⟨w.heap.size, 4, none⟩ = some (.int .i64 d) := by rw [cell_of_row W1 _ 4 _ _ _ hb]; rfl
  try rw [hW1]
  refine bodyPost_ret (v := Wg.val ⟨m, a, b, c, d⟩) ?_ rfl ⟨rfl, x1⟩
  simp [results, Tryz.results25, go_sem, q0, q1, q2, q3, q4, Wg.val]
set_option maxRecDepth 100000 in
set_option maxHeartbeats 1000000 in
theorem four_any (w : World) : Calls Tryz.prog 57 #[] w fun e w' => ∃ v, e = .returned v ∧ HsR w' v fourH ∧ Ext w w' := by
  go_enter Tryz.func57, Tryz.ntmps57
  go_upto_region 1 with fail
  obtain ⟨W0, hW0⟩ : ∃ W0, w.alloc (.cells #[.int .i64 0, .int .i64 0, .slice none 0 0] 25) = W0 := ⟨_, rfl⟩
  have x0 : Ext w W0 := by rw [← hW0]; exact Ext.alloc (Ext.refl w) _
  have b0 : W0.heap[w.heap.size]? = some (.cells #[.int .i64 0, .int .i64 0, .slice none 0 0] 25 (0, 0)) := by rw [← hW0]; exact heap_alloc_new w _
  have hl0 := (Array.getElem?_eq_some_iff.1 b0).1
  try rw [hW0]
  clear hW0
  go_wp2_with fail
  refine (weighed_any 0 100 100 10 12 W0).mono ?_
  rintro e w1 ⟨rfl, y1⟩
  simp only [Wg.val]
  go_wp2_with fail
  refine (weighed_any 1 100 100 8 9 w1).mono ?_
  rintro e w2 ⟨rfl, y2⟩
  simp only [Wg.val]
  go_wp2_with fail
  refine (weighed_any 2 50 60 12 12 w2).mono ?_
  rintro e w3 ⟨rfl, y3⟩
  simp only [Wg.val]
  go_wp2_with fail
  refine (weighed_any 4 80 80 20 22 w3).mono ?_
  rintro e w4 ⟨rfl, y4⟩
  simp only [Wg.val]
  have y := ((y1.trans y2).trans y3).trans y4
  have HC : Hid (∀ o, _) := fun o : Obj => house_cells ((Below.block (Ext.alloc y o) _ hl0).trans b0)
  have c0 := fun o => (HC.out o).1
  have c1 := fun o => (HC.out o).2.1
  have c2 := fun o => (HC.out o).2.2.1
  have fz := fun o => (HC.out o).2.2.2
  obtain ⟨W5, hW5⟩ : ∃ W5, w4.alloc (.cells (layWg.rows fourH.ws).toArray 67) = W5 := ⟨_, rfl⟩
  have y5 : Ext w4 W5 := by rw [← hW5]; exact Ext.alloc (Ext.refl _) _
  have r5 : Rd W5 (some ⟨w4.heap.size, 0, none⟩) (layWg.rows fourH.ws) := by rw [← hW5]; exact rd_newW _ _ _ _ rfl
  obtain ⟨W, hW, q1, q2, q3⟩ := put_house (a := w) (v0 := .int .i64 5) (v1 := .int .i64 2) (v2 := .slice (some ⟨w4.heap.size, 0, none⟩) 4 4) ((Below.block (y.trans y5) _ hl0).trans b0) (x0.trans (y.trans y5)) (Nat.le_refl _)
  obtain ⟨r0, r1, r2, -⟩ := house_cells q1
  go_wp2
  simp only [layWg, Lay.rows, fourH, List.flatMap_cons, List.flatMap_nil, List.cons_append, List.nil_append, List.append_nil] at hW5
  try rw [hW5]
  try rw [hW]
  refine bodyPost_ret (v := hval fourH (some ⟨w4.heap.size, 0, none⟩) 4) ?_ rfl ⟨_, rfl, ⟨_, _, rfl, ?_, by decide⟩, q2⟩
  · simp [results, Tryz.results57, go_sem, r0, r1, r2, hval, fourH]
  · exact q3.rd r5 (fun a ha => by cases ha; have := y.size; show ¬ w4.heap.size = w.heap.size; omega)
end Go.Proofs.YtjnobdcbbboeeaaGreat

namespace Go.Proofs.YtjnobdcbbboeeaaGreat
open Go Go.RowKit
set_option linter.unusedVariables false
set_option linter.unusedSimpArgs false

theorem eq_drop {l m : List Int} {k : Nat} {x y : Int} (hx : l[k]? = some x) (hy : m[k]? = some y) : (l.drop k == m.drop k) = ((x == y) && (l.drop (k + 1) == m.drop (k + 1))) := by
  have h1 : k < l.length := (List.getElem?_eq_some_iff.1 hx).1
  have h2 : k < m.length := (List.getElem?_eq_some_iff.1 hy).1
  rw [List.drop_eq_getElem_cons h1, List.drop_eq_getElem_cons h2, (List.getElem?_eq_some_iff.1 hx).2, (List.getElem?_eq_some_iff.1 hy).2]
  rfl

set_option maxRecDepth 100000 in
set_option maxHeartbeats 1000000 in
theorem equal_int (A A' : Option Addr) (c c' : Nat) (l m : List Int) (w : World) (hA : Ints w A l) (hB : Ints w A' m) (hl : l.length ≤ 9223372036854775807) (hm : m.length ≤ 9223372036854775807) :
    Calls Tryz.prog 89 #[.slice A l.length c, .slice A' m.length c'] w fun e w' => e = .returned (.bool (l == m)) ∧ Ext w w' := by
  by_cases hlen : l.length = m.length
  · generalize hN : m.length = N at *
    have HF : Hid ((l.drop 0 == m.drop 0) = (l == m)) := rfl
    generalize hF : (l == m) = F at HF ⊢
    clear hF
    have hn1 : (l.length : Int) = N := by omega
    obtain rfl : l.length = N := hlen
    clear hn1
    have HN := hid hN
    clear hN
    go_enter Tryz.func89, Tryz.ntmps89
    go_wp2
    go_loopw [5, 13] (fun _ i wr => ∃ k : Nat, k ≤ l.length ∧ i = .int .i64 (k : Int) ∧ Ext w wr ∧ Hid ((l.drop k == m.drop k) = F)) (fun _ i _ => l.length - (intOf i).toNat)
    case atStart => exact ⟨0, Nat.zero_le _, rfl, Ext.refl _, HF⟩
    case round =>
      obtain ⟨k, hk, rfl, hx, HF⟩ := hrel
      by_cases hlt : k < l.length
      · have hlt' : (k : Int) < (l.length : Int) := by omega
        obtain ⟨x, hx1⟩ := get_of_lt l k hlt
        obtain ⟨y, hy1⟩ := get_of_lt m k (by rw [HN.out]; exact hlt)
        obtain ⟨b1, o1, rfl, g1⟩ := (hA.ext hx).at_ hx1
        obtain ⟨b2, o2, rfl, g2⟩ := (hB.ext hx).at_ hy1
        have HX : Hid (((x == y) && (l.drop (k + 1) == m.drop (k + 1))) = F) := by unfold Hid; rw [← HF.out, eq_drop hx1 hy1]
        clear HF hx1 hy1
        by_cases hxy : x = y
        · subst hxy
          have hq : (x != x) = false := by simp
          have HX2 : Hid ((l.drop (k + 1) == m.drop (k + 1)) = F) := by unfold Hid; rw [← HX.out]; simp
          go_wp2
          go_quiet (fail)
          go_wp2
          go_roundw
          case rel => exact ⟨k + 1, by omega, by go_num, hx.drewN _, HX2⟩
          case measure => simp [intOf]; omega
        · have hq : (x != y) = true := by simpa using hxy
          have HX2 : Hid (false = F) := by unfold Hid; rw [← HX.out]; simp [hxy]
          go_wp2
          go_quiet (fail)
          go_wp2
          go_ret
          exact ⟨ret_of (bool_of HX2.out), hx.drewN _⟩
      · have hlt' : ¬ (k : Int) < (l.length : Int) := by omega
        have HX2 : Hid (true = F) := by
          unfold Hid
          rw [← HF.out, List.drop_eq_nil_of_le (by omega), List.drop_eq_nil_of_le (by rw [HN.out]; omega)]; rfl
        go_wp2
        go_ret
        exact ⟨ret_of (bool_of HX2.out), hx⟩
  · have hq : ((l.length : Int) != (m.length : Int)) = true := by simp; omega
    have HF : Hid ((l == m) = false) := by
      unfold Hid
      rw [beq_eq_false_iff_ne]
      intro e; exact hlen (by rw [e])
    generalize hF : (l == m) = F at HF ⊢
    clear hF
    go_enter Tryz.func89, Tryz.ntmps89
    go_wp2
    go_ret
    exact ⟨ret_of (bool_of HF.out.symm), Ext.refl _⟩

theorem eq_int (A A' : Option Addr) (c c' : Nat) (l m : List Int) (w : World) (hA : Ints w A l) (hB : Ints w A' m) (hl : l.length ≤ 9223372036854775807) (hm : m.length ≤ 9223372036854775807) :
    Calls Tryz.prog 61 #[.slice A l.length c, .slice A' m.length c'] w fun e w' => e = .returned (.bool (l == m)) ∧ Ext w w' := by
  generalize hF : (l == m) = F
  have HF := hid hF
  clear hF
  go_enter Tryz.func61, Tryz.ntmps61
  go_wp2_with fail
  refine (equal_int A A' c c' l m w hA hB hl hm).mono ?_
  rw [HF.out]
  rintro e w1 ⟨rfl, hb⟩
  go_wp2
  go_ret
  exact ⟨rfl, hb⟩
end Go.Proofs.YtjnobdcbbboeeaaGreat

namespace Go.Proofs.YtjnobdcbbboeeaaGreat
open Go Go.RowKit Go.Shelf
set_option linter.unusedVariables false
set_option linter.unusedSimpArgs false

theorem blk_cells {w : World} {B : Nat} {xs : List Value} {T : TypeId} (h : w.heap[B]? = some (.cells xs.toArray T (0, 0))) (j : Nat) (u : Value) (hu : xs[j]? = some u) : w.cell? ⟨B, j, none⟩ = some u := by
  rw [cell_of_row w B j _ _ _ h]; simpa using hu
theorem hsr_own {w : World} {base : Nat} {h : Hs} {A : Option Addr} {c : Nat} (ho : w.ownsRow base 67 5 (.slice A h.ws.length c) h.ws.length (layWg.rows h.ws)) : HsR w (hval h A c) h := ⟨A, c, rfl, Rd.of_own ho, own_cap2 ho⟩
set_option maxRecDepth 100000 in
set_option maxHeartbeats 8000000 in
theorem awake_any (w : World) : Calls Tryz.prog 24 #[] w fun e w' => e = .returned (.bool true) ∧ Ext w w' := by
  have zs : Hid (fourH.sized ∧ lessH.sized) := ⟨by unfold Hs.sized; decide, by unfold Hs.sized; decide⟩
  go_enter Tryz.func24, Tryz.ntmps24
  go_wp2_with fail
  refine (four_any w).mono ?_
  rintro e wa1 ⟨v1, rfl, h1, xa1⟩
  go_wp2_with fail
  refine (fewest_any v1 fourH wa1 h1 zs.out.1).mono ?_
  rw [four_few, show fewE fourH = 0 from four_check.1]
  rintro e W1 ⟨A1, k1, rfl, xb1, i1⟩
  have y1 := xa1.trans xb1
  clear xa1 xb1 h1
  go_wp2_with fail
  refine (four_any W1).mono ?_
  rintro e wa2 ⟨v2, rfl, h2, xa2⟩
  go_wp2_with fail
  refine (clash_any v2 fourH wa2 h2 zs.out.1).mono ?_
  rw [four_cla.1, four_cla.2]
  unfold claRes
  rintro e W2 ⟨rfl, xb2⟩
  have y2 := (y1.trans xa2).trans xb2
  have i2 := i1.ext (xa2.trans xb2)
  clear xa2 xb2 h2 y1 i1
  go_wp2_with fail
  obtain ⟨P2, hP2⟩ : ∃ P2, W2.alloc (.cells #[.int .i64 0, .int .i64 1] 43) = P2 := ⟨_, rfl⟩
  have xp2 : Ext W2 P2 := by rw [← hP2]; exact Ext.alloc (Ext.refl _) _
  have bp2 : P2.heap[W2.heap.size]? = some (.cells #[.int .i64 0, .int .i64 1] 43 (0, 0)) := by rw [← hP2]; exact heap_alloc_new _ _
  have p0 := blk_cells bp2 0 (.int .i64 0) rfl
  have p1 := blk_cells bp2 1 (.int .i64 1) rfl
  try rw [hP2]
  clear hP2 bp2
  refine (four_any P2).mono ?_
  rintro e wa3 ⟨v3, rfl, h3, xa3⟩
  go_wp2_with fail
  have xc3 := Ext.alloc (Ext.refl wa3) (.cells (layPr.rows [(3, 2), (0, 1)]).toArray 43)
  refine (proves_any v3 fourH _ (h3.ext xc3) zs.out.1 (some ⟨wa3.heap.size, 0, none⟩) 2 [(3, 2), (0, 1)] (rd_newW wa3 (layPr.rows [(3, 2), (0, 1)]) _ _ rfl) (by decide)).mono ?_
  rw [four_prov.1, four_prov.2]
  rintro e W3 ⟨rfl, xb3⟩
  have xs3 := (xa3.trans xc3).trans xb3
  have y3 := (y2.trans xp2).trans xs3
  have i3 := i2.ext (xp2.trans xs3)
  have p0 := xs3.cell p0
  have p1 := xs3.cell p1
  clear xa3 xc3 xb3 h3 xs3 xp2 y2 i2
  go_wp2_with fail
  refine (four_any W3).mono ?_
  rintro e wa4 ⟨v4, rfl, h4, xa4⟩
  go_wp2_with fail
  have xc4 := Ext.alloc (Ext.refl wa4) (.cells #[.int .i64 0, .int .i64 2] 3)
  refine (without_any v4 fourH _ (h4.ext xc4) zs.out.1 (some ⟨wa4.heap.size, 0, none⟩) 2 [0, 2] (rd_newW wa4 [.int .i64 0, .int .i64 2] _ _ rfl) (by decide)).mono ?_
  rw [four_less.1, four_less.2]
  rintro e W4 ⟨A4, k4, rfl, xb4, o4⟩
  have hs4 := hsr_own o4
  have xs4 := (xa4.trans xc4).trans xb4
  have y4 := y3.trans xs4
  have i4 := i3.ext xs4
  have p0 := xs4.cell p0
  have p1 := xs4.cell p1
  clear xa4 xc4 xb4 h4 xs4 y3 i3 o4
  simp only [hval]
  go_upto_region 5 with fail
  obtain ⟨P4, hP4⟩ : ∃ P4, W4.alloc (.cells #[.int .i64 lessH.mo, .int .i64 lessH.pk, .slice A4 lessH.ws.length k4] 25) = P4 := ⟨_, rfl⟩
  have xp4 : Ext W4 P4 := by rw [← hP4]; exact Ext.alloc (Ext.refl _) _
  have bp4 : P4.heap[W4.heap.size]? = some (.cells #[.int .i64 lessH.mo, .int .i64 lessH.pk, .slice A4 lessH.ws.length k4] 25 (0, 0)) := by rw [← hP4]; exact heap_alloc_new _ _
  obtain ⟨c0, c1, c2, -⟩ := house_cells bp4
  try rw [hP4]
  clear hP4 bp4
  have HL := hid (hs4.ext xp4)
  have y5 := y4.trans xp4
  have i5 := i4.ext xp4
  have p0 := xp4.cell p0
  have p1 := xp4.cell p1
  clear y4 i4 xp4 hs4
  have KM := hid (meat_any _ lessH 4 90 P4 HL.out zs.out.2)
  simp only [hval] at KM
  rw [four_meat.1, four_meat.2.1, four_meat.2.2] at KM
  go_wp2_with fail
  refine KM.out.mono ?_
  rintro e W5 ⟨rfl, xb5⟩
  clear KM
  have y6 := y5.trans xb5
  have i6 := i5.ext xb5
  have p0 := xb5.cell p0
  have p1 := xb5.cell p1
  have c0 := xb5.cell c0
  have c1 := xb5.cell c1
  have c2 := xb5.cell c2
  have HL6 := hid (HL.out.ext xb5)
  clear HL
  clear y5 i5 xb5
  go_upto_region 6 with fail
  obtain ⟨P5, hP5⟩ : ∃ P5, W5.alloc (.cells #[.int .i64 23, .int .i64 24] 65) = P5 := ⟨_, rfl⟩
  have xp5 : Ext W5 P5 := by rw [← hP5]; exact Ext.alloc (Ext.refl _) _
  have bp5 : P5.heap[W5.heap.size]? = some (.cells #[.int .i64 23, .int .i64 24] 65 (0, 0)) := by rw [← hP5]; exact heap_alloc_new _ _
  have s0 := blk_cells bp5 0 (.int .i64 23) rfl
  have s1 := blk_cells bp5 1 (.int .i64 24) rfl
  try rw [hP5]
  clear hP5 bp5
  have y7 := y6.trans xp5
  have i7 := i6.ext xp5
  have p0 := xp5.cell p0
  have p1 := xp5.cell p1
  have c0 := xp5.cell c0
  have c1 := xp5.cell c1
  have c2 := xp5.cell c2
  have HL7 := hid (HL6.out.ext xp5)
  clear HL6
  clear y6 i6 xp5
  have KM := hid (bounds_any _ lessH 4 P5 HL7.out zs.out.2)
  simp only [hval, rval] at KM
  rw [four_bnd.1, four_bnd.2.1, four_bnd.2.2.1] at KM
  go_wp2_with fail
  refine KM.out.mono ?_
  rintro e W6 ⟨rfl, xb6⟩
  clear KM
  have y8 := y7.trans xb6
  have i8 := i7.ext xb6
  have p0 := xb6.cell p0
  have p1 := xb6.cell p1
  have c0 := xb6.cell c0
  have c1 := xb6.cell c1
  have c2 := xb6.cell c2
  have s0 := xb6.cell s0
  have s1 := xb6.cell s1
  have HL8 := hid (HL7.out.ext xb6)
  clear HL7
  clear y7 i7 xb6
  go_upto_region 7 with fail
  obtain ⟨P6, hP6⟩ : ∃ P6, (W6.alloc (.cells #[.int .i64 1, .int .i64 4] 63)).alloc (.cells #[.int .i64 11, .int .i64 40] 63) = P6 := ⟨_, rfl⟩
  have xp6 : Ext W6 P6 := by rw [← hP6]; exact (Ext.refl _).alloc _ |>.alloc _
  have bp6 : P6.heap[W6.heap.size]? = some (.cells #[.int .i64 1, .int .i64 4] 63 (0, 0)) := by rw [← hP6]; exact (Below.heap_alloc _ _ _ (by simp)).trans (heap_alloc_new W6 _)
  have bq6 : P6.heap[W6.heap.size + 1]? = some (.cells #[.int .i64 11, .int .i64 40] 63 (0, 0)) := by
    rw [← hP6]
    have q := heap_alloc_new (W6.alloc (.cells #[.int .i64 1, .int .i64 4] 63)) (.cells #[.int .i64 11, .int .i64 40] 63)
    rw [World.size_alloc] at q
    exact q
  have l0 := blk_cells bp6 0 (.int .i64 1) rfl
  have l1 := blk_cells bp6 1 (.int .i64 4) rfl
  have u0 := blk_cells bq6 0 (.int .i64 11) rfl
  have u1 := blk_cells bq6 1 (.int .i64 40) rfl
  try rw [hP6]
  clear hP6 bp6 bq6
  have y9 := y8.trans xp6
  have i9 := i8.ext xp6
  have p0 := xp6.cell p0
  have p1 := xp6.cell p1
  have c0 := xp6.cell c0
  have c1 := xp6.cell c1
  have c2 := xp6.cell c2
  have s0 := xp6.cell s0
  have s1 := xp6.cell s1
  have HL9 := hid (HL8.out.ext xp6)
  clear HL8
  clear y8 i8 xp6
  have KM := hid (bounds_any _ lessH 2 P6 HL9.out zs.out.2)
  simp only [hval, rval] at KM
  rw [four_bnd.2.2.2] at KM
  obtain ⟨b1, hb1⟩ : ∃ b1, bndL lessH 2 = b1 := ⟨_, rfl⟩
  obtain ⟨b2, hb2⟩ : ∃ b2, bndU lessH 2 = b2 := ⟨_, rfl⟩
  rw [hb1, hb2] at KM
  clear hb1 hb2
  go_wp2_with fail
  refine KM.out.mono ?_
  rintro e W7 ⟨rfl, xb7⟩
  clear KM HL9
  have y10 := y9.trans xb7
  have i10 := i9.ext xb7
  have p0 := xb7.cell p0
  have p1 := xb7.cell p1
  have c0 := xb7.cell c0
  have c1 := xb7.cell c1
  have c2 := xb7.cell c2
  have s0 := xb7.cell s0
  have s1 := xb7.cell s1
  have l0 := xb7.cell l0
  have l1 := xb7.cell l1
  have u0 := xb7.cell u0
  have u1 := xb7.cell u1
  clear y9 i9 xb7
  go_upto_region 8 with fail
  obtain ⟨P7, hP7⟩ : ∃ P7, (W7.alloc (.cells #[.int .i64 b1.1, .int .i64 b1.2] 63)).alloc (.cells #[.int .i64 b2.1, .int .i64 b2.2] 63) = P7 := ⟨_, rfl⟩
  have xp7 : Ext W7 P7 := by rw [← hP7]; exact (Ext.refl _).alloc _ |>.alloc _
  try rw [hP7]
  clear hP7
  have y11 := y10.trans xp7
  have i11 := i10.ext xp7
  have p0 := xp7.cell p0
  have p1 := xp7.cell p1
  have c0 := xp7.cell c0
  have c1 := xp7.cell c1
  have c2 := xp7.cell c2
  have s0 := xp7.cell s0
  have s1 := xp7.cell s1
  have l0 := xp7.cell l0
  have l1 := xp7.cell l1
  have u0 := xp7.cell u0
  have u1 := xp7.cell u1
  clear y10 i10 xp7
  go_wp2_with fail
  have xd := Ext.alloc (Ext.refl P7) (.cells #[.int .i64 0, .int .i64 2] 3)
  refine (eq_int A1 (some ⟨P7.heap.size, 0, none⟩) k1 2 [0, 2] [0, 2] _ (i11.ext xd) (rd_newW P7 [.int .i64 0, .int .i64 2] _ _ rfl) (by decide) (by decide)).mono ?_
  rintro e W8 ⟨rfl, xe⟩
  have y12 := y11.trans (xd.trans xe)
  have xx := xd.trans xe
  have p0 := xx.cell p0
  have p1 := xx.cell p1
  have c0 := xx.cell c0
  have c1 := xx.cell c1
  have c2 := xx.cell c2
  have s0 := xx.cell s0
  have s1 := xx.cell s1
  have l0 := xx.cell l0
  have l1 := xx.cell l1
  have u0 := xx.cell u0
  have u1 := xx.cell u1
  clear xd xe xx y11 i11
  go_wp2
  go_ret
  exact ⟨rfl, y12⟩
end Go.Proofs.YtjnobdcbbboeeaaGreat
