/- The walks of boil's below and its iterator. Printed by my gen_bbel.py. What proof's closure place says of lists, and its blocks in memory. No program stands here. The walk of place, the closure of boil's proof. Printed by my gen_bplc.py. The marks that loops over an iterator leave behind. No program stands here. The walk of boil's clashes. Printed by my gen_bcls.py. The walk of boil.Clash. Printed by my gen_bclash.py. -/
import Derived.Test.YtjnobdcbbboeeaaGreatH5
import Derived.Test.YtjnobdcbbboeeaaGreatH2
import Derived.Test.YtjnobdcbbboeeaaGreatH1
import Derived.WalkMore
namespace Go.Proofs.YtjnobdcbbboeeaaGreat
open Go Go.RowKit Go.Shelf
set_option linter.unusedVariables false
set_option linter.unusedSimpArgs false
attribute [local go_sem] Oper.semAt_some

theorem abides_ext {β : Type} {B : Nat} {J : β → World → Prop} (h : AbidesFrom B J) {s : β} {W W' : World} (hs : J s W) (he : Ext W W') : J s W' :=
  h s W W' none hs (by obtain ⟨h1, h2, h3, h4, h5⟩ := he; exact ⟨h1, h2, h3, h4, fun i hi _ => h5 i hi⟩) (fun _ e => by cases e)
theorem mem_of_eq {α : Type} {a : α} {l m : List α} (h : l = m) (ha : a ∈ l) : a ∈ m := h ▸ ha
theorem len_of_eq {α : Type} {l m : List α} (h : l = m) {k : Nat} (ha : k < l.length) : k < m.length := h ▸ ha

theorem below_any (D a : Nat) (w : World) :
    Calls Tryz.prog 67 #[.pointer (some ⟨D, 0, none⟩), .int .i64 (a : Int)] w fun e w' => e = .returned (.func (.func 90) #[] #[.pointer (some ⟨w.heap.size, 0, none⟩), .pointer (some ⟨w.heap.size + 1, 0, none⟩)]) ∧
      w' = (w.alloc (.cells #[.pointer (some ⟨D, 0, none⟩)] 73)).alloc (.cells #[.int .i64 (a : Int)] 3) := by
  go_enter Tryz.func67, Tryz.ntmps67
  go_wp2
  go_ret
  exact ⟨rfl, rfl⟩

/-- The cells of all blocks but those of a kind are kept. -/
def KcS (S : Nat → Prop) (a b : World) : Prop := a.heap.size ≤ b.heap.size ∧ ∀ (p : Addr) (u : Value), ¬ S p.block → a.cell? p = some u → b.cell? p = some u
section
variable {S : Nat → Prop} {a b c : World}
theorem KcS.refl (S : Nat → Prop) (w : World) : KcS S w w := ⟨Nat.le_refl _, fun _ _ _ h => h⟩
theorem KcS.trans (h : KcS S a b) (k : KcS S b c) : KcS S a c := ⟨Nat.le_trans h.1 k.1, fun p u hn hp => k.2 p u hn (h.2 p u hn hp)⟩
theorem Ext.kcS (h : Ext a b) : KcS S a b := ⟨h.size, fun _ _ _ hp => h.cell hp⟩
theorem BelS.kcS (h : BelS S a b) : KcS S a b := ⟨h.size, fun _ _ hn hp => h.cell hp hn⟩
theorem KcS.cell (h : KcS S a b) {p : Addr} {u : Value} (hp : a.cell? p = some u) (hn : ¬ S p.block) : b.cell? p = some u := h.2 p u hn hp
theorem kcS_b {B : Nat} (W : World) (l : Nat) (o o' : Obj) (_ : B ≤ l) (h : W.heap[l]? = some o) (ho : o.isCells = false) (_ : o.isWalk = false) : KcS S W (W.putObj l o') :=
  ⟨(grownBy_putObj' W l o').size, fun _ _ _ hp => cell_kept hp (grownBy_putObj' W l o') (fun r e => by cases e; exact ⟨o, h, ho⟩)⟩
end
/-- A yield's argument: one of the weighings. -/
abbrev NP (L : List Nat) := { x : Nat // x ∈ L }
def encNP {L : List Nat} (x : NP L) : Array Value := #[.int .i64 (x.1 : Int)]
theorem bel_drop (q : Nat → Bool) (P k : Nat) (hk : k < P) : (List.range' k (P - k)).filter q = (if q k = true then [k] else []) ++ (List.range' (k + 1) (P - (k + 1))).filter q := by
  rw [show P - k = (P - (k + 1)) + 1 by omega, List.range'_succ, List.filter_cons]
  by_cases h : q k = true <;> simp [h]
theorem bel_start (q : Nat → Bool) (P : Nat) : (List.range' 0 (P - 0)).filter q = (List.range P).filter q := by
  rw [List.range_eq_range']; rfl

set_option maxRecDepth 100000 in
set_option maxHeartbeats 4000000 in
theorem below1_in (n l D Bd Ba : Nat) (S : Nat → Prop) (h : Hs) (A : Option Addr) (c : Nat) (a : Nat) (L : List Nat) (hL : belH h a = L) (J Jx : List (NP L) → World → Prop)
    (hn : h.ws.length ≤ 14) (ha : a < h.ws.length) (hD : ¬ S D) (hBd : ¬ S Bd) (hBa : ¬ S Ba)
    (hY : ∀ pre x W, J pre W → pre.length < L.length → YieldAt Fence.wide (n - 1) Tryz.prog l (encNP x) W fun e W' =>
      (e = .returned (.bool true) ∧ J (pre ++ [x]) W' ∧ KcS S W W') ∨ (e = .returned (.bool false) ∧ Jx (pre ++ [x]) W'))
    (W : World) (hJ : AbidesFrom W.heap.size J)
    (hd : Dsk W D A c h (claG h)) (kd : W.cell? ⟨Bd, 0, none⟩ = some (.pointer (some ⟨D, 0, none⟩))) (ka : W.cell? ⟨Ba, 0, none⟩ = some (.int .i64 (a : Int))) (h0 : J [] W) :
    CallsIn Fence.wide n Tryz.prog 90 #[.func (.yield l) #[] #[], .pointer (some ⟨Bd, 0, none⟩), .pointer (some ⟨Ba, 0, none⟩)] W fun e W' => (∃ v, e = .returned v) ∧
      ((∃ xs, xs.map (·.1) = L ∧ J xs W') ∨ (∃ pre, pre.map (·.1) <+: L ∧ Jx pre W')) := by
  have HL : Hid ((List.range' 0 (h.ws.length - 0)).filter (claH h a) = L) := by rw [← hL]; exact bel_start _ _
  have HY := hid hY
  have HJ := hid hJ
  clear hY hJ
  obtain ⟨P, hP⟩ : ∃ P : Nat, h.ws.length = P := ⟨_, rfl⟩
  have HC : Hid (∀ k, k < P → claG h a k = claH h a k) := fun k hk => claG_is ha (by rw [hP]; exact hk)
  have e0 := hd.ws
  have HM : Hid (∀ k, k < 14 → W.cell? ⟨D, 3 + a * 14 + k, none⟩ = some (.bool (claG h a k))) := fun k hk => hd.at_ (by omega) hk
  rw [hP] at HL e0 hn ha
  have ha14 : (a : Int) < 14 := by omega
  clear hL hP hd
  refine callsIn_of_wp Tryz.func90 rfl trivial ?_ rfl
  simp only [Tryz.ntmps90, List.size_toArray, List.length_cons, List.length_nil, Nat.reduceAdd, Nat.reduceSub, Array.replicate_succ, Array.replicate_zero, List.push_toArray, List.append_toArray, List.nil_append, List.cons_append]
  gi_wp2
  gi_loopw [11] (fun i wr => ∃ (kk : Nat) (pre : List (NP L)), kk ≤ P ∧ i = .int .i64 kk ∧ J pre wr ∧ Hid (pre.map (·.1) ++ (List.range' kk (P - kk)).filter (claH h a) = L) ∧ KcS S W wr)
    (fun i _ => P - (intOf i).toNat)
  case atStart => exact ⟨0, [], Nat.zero_le _, rfl, h0, by simpa using HL, KcS.refl _ _⟩
  case round =>
    obtain ⟨kk, pre, h1, rfl, hJ1, HP, hkr⟩ := hrel
    by_cases hlt : kk < P
    · have hlt' : (kk : Int) < (P : Int) := by omega
      have hk14 : (kk : Int) < 14 := by omega
      have q0 := hkr.cell kd hBd
      have q1 := hkr.cell ka hBa
      have q2 : wr.cell? ⟨D, 3 + a * 14 + kk, none⟩ = some (.bool (claH h a kk)) := by
        rw [← HC.out kk hlt]
        exact hkr.cell (HM.out kk (by omega)) hD
      have FX : Hid (∀ w', Ext wr w' → w'.cell? ⟨Bd, 0, none⟩ = some (.pointer (some ⟨D, 0, none⟩)) ∧ w'.cell? ⟨Ba, 0, none⟩ = some (.int .i64 (a : Int)) ∧ w'.cell? ⟨D, 3 + a * 14 + kk, none⟩ = some (.bool (claH h a kk))) := fun w' hx => ⟨hx.cell q0, hx.cell q1, hx.cell q2⟩
      have HN := hid (bel_drop (claH h a) P kk hlt)
      clear q0 q1 q2
      by_cases hg : claH h a kk = true
      · have HQ : Hid (claH h a kk = true) := hg
        have HN2 : Hid ((List.range' kk (P - kk)).filter (claH h a) = kk :: (List.range' (kk + 1) (P - (kk + 1))).filter (claH h a)) := by unfold Hid; rw [HN.out, if_pos hg]; rfl
        have hmem : kk ∈ L := mem_of_eq HP.out (by rw [HN2.out]; simp)
        have hlen : pre.length < L.length := len_of_eq HP.out (by rw [HN2.out]; simp)
        clear hg
        gi_wp2
        refine wpW_region_shut_tail Ext (fun w' => Ext wr w') (fun _ => none) 11 (by kernel_rfl) (by kernel_rfl) (fun _ _ h k => h.trans k) (fun i R h => by cases h) (Ext.drew (Ext.refl wr)) ?_
        refine wM_val ?ub0 rfl rfl Ext.refl (fun w' hD => ?hb0) (fun phb0 => ?nb0)
        case hb0 =>
          obtain ⟨d0, d1, d2⟩ := FX.out w' hD.1
          go_simp; rfl
        simp only [Act.put, List.setIfInBounds_toArray, List.set_cons_succ, List.set_cons_zero, Nat.reduceAdd]
        refine wM_val ?ub1 rfl rfl Ext.refl (fun w' hD => ?hb1) (fun phb1 => ?nb1)
        case hb1 =>
          obtain ⟨d0, d1, d2⟩ := FX.out w' hD.1
          go_simp; rfl
        simp only [Act.put, List.setIfInBounds_toArray, List.set_cons_succ, List.set_cons_zero, Nat.reduceAdd]
        refine wM_val ?ub2 rfl rfl Ext.refl (fun w' hD => ?hb2) (fun phb2 => ?nb2)
        case hb2 =>
          obtain ⟨d0, d1, d2⟩ := FX.out w' hD.1
          go_simp; rfl
        simp only [Act.put, List.setIfInBounds_toArray, List.set_cons_succ, List.set_cons_zero, Nat.reduceAdd]
        refine wM_val ?ub3 rfl rfl Ext.refl (fun w' hD => ?hb3) (fun phb3 => ?nb3)
        case hb3 =>
          obtain ⟨d0, d1, d2⟩ := FX.out w' hD.1
          go_simp; rfl
        simp only [Act.put, List.setIfInBounds_toArray, List.set_cons_succ, List.set_cons_zero, Nat.reduceAdd]
        refine wM_val ?ub4 rfl rfl Ext.refl (fun w' hD => ?hb4) (fun phb4 => ?nb4)
        case hb4 =>
          obtain ⟨d0, d1, d2⟩ := FX.out w' hD.1
          go_simp; rfl
        simp only [Act.put, List.setIfInBounds_toArray, List.set_cons_succ, List.set_cons_zero, Nat.reduceAdd]
        refine wM_val ?ub5 rfl rfl Ext.refl (fun w' hD => ?hb5) (fun phb5 => ?nb5)
        case hb5 =>
          obtain ⟨d0, d1, d2⟩ := FX.out w' hD.1
          go_simp; rfl
        simp only [Act.put, List.setIfInBounds_toArray, List.set_cons_succ, List.set_cons_zero, Nat.reduceAdd]
        refine wM_val ?ub6 rfl rfl Ext.refl (fun w' hD => ?hb6) (fun phb6 => ?nb6)
        case hb6 =>
          obtain ⟨d0, d1, d2⟩ := FX.out w' hD.1
          go_simp; rfl
        simp only [Act.put, List.setIfInBounds_toArray, List.set_cons_succ, List.set_cons_zero, Nat.reduceAdd]
        refine wM_val ?ub7 rfl rfl Ext.refl (fun w' hD => ?hb7) (fun phb7 => ?nb7)
        case hb7 =>
          obtain ⟨d0, d1, d2⟩ := FX.out w' hD.1
          go_simp; rfl
        simp only [Act.put, List.setIfInBounds_toArray, List.set_cons_succ, List.set_cons_zero, Nat.reduceAdd]
        rw [HQ.out]
        refine wM_val ?ub8 rfl rfl Ext.refl (fun w' hD => ?hb8) (fun phb8 => ?nb8)
        case hb8 =>
          obtain ⟨d0, d1, d2⟩ := FX.out w' hD.1
          go_simp; rfl
        simp only [Act.put, List.setIfInBounds_toArray, List.set_cons_succ, List.set_cons_zero, Nat.reduceAdd]
        refine wM_val ?ub9 rfl rfl Ext.refl (fun w' hD => ?hb9) (fun phb9 => ?nb9)
        case hb9 =>
          obtain ⟨d0, d1, d2⟩ := FX.out w' hD.1
          go_simp; rfl
        simp only [Act.put, List.setIfInBounds_toArray, List.set_cons_succ, List.set_cons_zero, Nat.reduceAdd]
        refine wM_val ?ub10 rfl rfl Ext.refl (fun w' hD => ?hb10) (fun phb10 => ?nb10)
        case hb10 =>
          obtain ⟨d0, d1, d2⟩ := FX.out w' hD.1
          go_simp; rfl
        simp only [Act.put, List.setIfInBounds_toArray, List.set_cons_succ, List.set_cons_zero, Nat.reduceAdd]
        refine wM_nil ?_
        intro w9 hw9 hF9
        obtain ⟨fn, tmps, assign, body, hy, hR⟩ := HY.out pre ⟨kk, hmem⟩ w9 (abides_ext HJ.out hJ1 hw9) hlen
        simp only [encNP] at hy
        gi_wp2
        refine ⟨fun h => (by cases h), hR.mono ?_⟩
        rintro e W3 (⟨rfl, hJ3, hk3⟩ | ⟨rfl, hJx3⟩)
        · have hkc : KcS S wr W3 := (Ext.kcS hw9).trans hk3
          gi_wp2
          go_roundw
          case rel => exact ⟨kk + 1, _, by omega, by go_num, hJ3, Eq.trans (by rw [HN2.out]; simp) HP.out, hkr.trans hkc⟩
          case measure => simp [intOf]; omega
        · gi_wp2
          refine bodyPost_ret (results_none rfl _ _ _) rfl ?_
          exact ⟨⟨_, rfl⟩, .inr ⟨_, ⟨(List.range' (kk + 1) (P - (kk + 1))).filter (claH h a), Eq.trans (by rw [HN2.out]; simp) HP.out⟩, hJx3⟩⟩
      · have HQ : Hid (claH h a kk = false) := by simpa [Hid] using hg
        have HN2 : Hid ((List.range' kk (P - kk)).filter (claH h a) = (List.range' (kk + 1) (P - (kk + 1))).filter (claH h a)) := by unfold Hid; rw [HN.out, if_neg hg]; rfl
        clear hg
        gi_wp2
        refine wpW_region_shut Ext (fun w' => Ext wr w') (fun _ => none) (by kernel_rfl) (by kernel_rfl) (fun _ _ h k => h.trans k) (fun i R h => by cases h) (Ext.drew (Ext.refl wr)) ?_
        refine wM_val ?ua0 rfl rfl Ext.refl (fun w' hD => ?ha0) (fun pha0 => ?na0)
        case ha0 =>
          obtain ⟨d0, d1, d2⟩ := FX.out w' hD.1
          go_simp; rfl
        simp only [Act.put, List.setIfInBounds_toArray, List.set_cons_succ, List.set_cons_zero, Nat.reduceAdd]
        refine wM_val ?ua1 rfl rfl Ext.refl (fun w' hD => ?ha1) (fun pha1 => ?na1)
        case ha1 =>
          obtain ⟨d0, d1, d2⟩ := FX.out w' hD.1
          go_simp; rfl
        simp only [Act.put, List.setIfInBounds_toArray, List.set_cons_succ, List.set_cons_zero, Nat.reduceAdd]
        refine wM_val ?ua2 rfl rfl Ext.refl (fun w' hD => ?ha2) (fun pha2 => ?na2)
        case ha2 =>
          obtain ⟨d0, d1, d2⟩ := FX.out w' hD.1
          go_simp; rfl
        simp only [Act.put, List.setIfInBounds_toArray, List.set_cons_succ, List.set_cons_zero, Nat.reduceAdd]
        refine wM_val ?ua3 rfl rfl Ext.refl (fun w' hD => ?ha3) (fun pha3 => ?na3)
        case ha3 =>
          obtain ⟨d0, d1, d2⟩ := FX.out w' hD.1
          go_simp; rfl
        simp only [Act.put, List.setIfInBounds_toArray, List.set_cons_succ, List.set_cons_zero, Nat.reduceAdd]
        refine wM_val ?ua4 rfl rfl Ext.refl (fun w' hD => ?ha4) (fun pha4 => ?na4)
        case ha4 =>
          obtain ⟨d0, d1, d2⟩ := FX.out w' hD.1
          go_simp; rfl
        simp only [Act.put, List.setIfInBounds_toArray, List.set_cons_succ, List.set_cons_zero, Nat.reduceAdd]
        refine wM_val ?ua5 rfl rfl Ext.refl (fun w' hD => ?ha5) (fun pha5 => ?na5)
        case ha5 =>
          obtain ⟨d0, d1, d2⟩ := FX.out w' hD.1
          go_simp; rfl
        simp only [Act.put, List.setIfInBounds_toArray, List.set_cons_succ, List.set_cons_zero, Nat.reduceAdd]
        refine wM_val ?ua6 rfl rfl Ext.refl (fun w' hD => ?ha6) (fun pha6 => ?na6)
        case ha6 =>
          obtain ⟨d0, d1, d2⟩ := FX.out w' hD.1
          go_simp; rfl
        simp only [Act.put, List.setIfInBounds_toArray, List.set_cons_succ, List.set_cons_zero, Nat.reduceAdd]
        refine wM_val ?ua7 rfl rfl Ext.refl (fun w' hD => ?ha7) (fun pha7 => ?na7)
        case ha7 =>
          obtain ⟨d0, d1, d2⟩ := FX.out w' hD.1
          go_simp; rfl
        simp only [Act.put, List.setIfInBounds_toArray, List.set_cons_succ, List.set_cons_zero, Nat.reduceAdd]
        rw [HQ.out]
        refine wM_val ?ua8 rfl rfl Ext.refl (fun w' hD => ?ha8) (fun pha8 => ?na8)
        case ha8 =>
          obtain ⟨d0, d1, d2⟩ := FX.out w' hD.1
          go_simp; rfl
        simp only [Act.put, List.setIfInBounds_toArray, List.set_cons_succ, List.set_cons_zero, Nat.reduceAdd]
        refine wM_skip rfl ?_
        simp only [Act.put, List.setIfInBounds_toArray, List.set_cons_succ, List.set_cons_zero, Nat.reduceAdd]
        refine wM_skip rfl ?_
        simp only [Act.put, List.setIfInBounds_toArray, List.set_cons_succ, List.set_cons_zero, Nat.reduceAdd]
        refine wM_skip rfl ?_
        simp only [Act.put, List.setIfInBounds_toArray, List.set_cons_succ, List.set_cons_zero, Nat.reduceAdd]
        refine wM_skip rfl ?_
        simp only [Act.put, List.setIfInBounds_toArray, List.set_cons_succ, List.set_cons_zero, Nat.reduceAdd]
        refine wM_val ?ua13 rfl rfl Ext.refl (fun w' hD => ?ha13) (fun pha13 => ?na13)
        case ha13 =>
          obtain ⟨d0, d1, d2⟩ := FX.out w' hD.1
          go_simp; rfl
        simp only [Act.put, List.setIfInBounds_toArray, List.set_cons_succ, List.set_cons_zero, Nat.reduceAdd]
        refine wM_nil ?_
        intro w9 hw9 hF9
        have hJ9 := abides_ext HJ.out hJ1 hw9
        gi_wp2
        go_roundw
        case rel => exact ⟨kk + 1, _, by omega, by go_num, hJ9, Eq.trans (by rw [HN2.out]) HP.out, hkr.trans hw9.kcS⟩
        case measure => simp [intOf]; omega
    · have hlt' : ¬ (kk : Int) < (P : Int) := by omega
      have HE : Hid (pre.map (·.1) = L) := Eq.trans (by rw [show P - kk = 0 by omega]; simp) HP.out
      gi_wp2
      go_end0
      exact ⟨⟨_, rfl⟩, .inl ⟨_, HE.out, hJ1⟩⟩

theorem below_stops (n D Bd Ba : Nat) (S : Nat → Prop) (h : Hs) (A : Option Addr) (c a : Nat) (w : World) (hn : h.ws.length ≤ 14) (ha : a < h.ws.length) (hD : ¬ S D) (hBd : ¬ S Bd) (hBa : ¬ S Ba)
    (hd : Dsk w D A c h (claG h)) (kd : w.cell? ⟨Bd, 0, none⟩ = some (.pointer (some ⟨D, 0, none⟩))) (ka : w.cell? ⟨Ba, 0, none⟩ = some (.int .i64 (a : Int))) :
    SeqStopsK Fence.wide n Tryz.prog 90 #[.pointer (some ⟨Bd, 0, none⟩), .pointer (some ⟨Ba, 0, none⟩)] (encNP (L := belH h a)) (KcS S) (fun xs => xs.map (·.1) = belH h a) (fun xs => xs.map (·.1) <+: belH h a) (belH h a).length w :=
  fun l J Jx W hW hJ _ hY h0 => by
    have hW : Ext w W := hW
    exact below1_in n l D Bd Ba S h A c a _ rfl J Jx hn ha hD hBd hBa hY W hJ (hd.ext hW) (hW.cell kd) (hW.cell ka) h0
end Go.Proofs.YtjnobdcbbboeeaaGreat

namespace Go.Proofs.YtjnobdcbbboeeaaGreat
open Go Go.RowKit
set_option linter.unusedVariables false
set_option linter.unusedSimpArgs false

section
variable {rec : Nat → (Nat → Int) → (Nat → Bool) → Bool × (Nat → Int) × (Nat → Bool)} {a : Nat}
theorem plcL_app : ∀ (l m : List Nat) (ov : Nat → Int) (mt : Nat → Bool), plcL rec a (l ++ m) ov mt = if (plcL rec a l ov mt).1 = true then plcL rec a l ov mt else plcL rec a m (plcL rec a l ov mt).2.1 (plcL rec a l ov mt).2.2
  | [], m, ov, mt => by simp [plcL]
  | b :: l, m, ov, mt => by
    simp only [List.cons_append, plcL]
    by_cases h1 : mt b = true
    · simp only [h1, if_true]; exact plcL_app l m ov mt
    · by_cases h2 : ov b < 0
      · simp [h1, h2]
      · by_cases h3 : (rec (ov b).toNat ov (updB mt b true)).1 = true
        · simp [h1, h2, h3]
        · simp only [h1, h2, h3, if_false]; exact plcL_app l m _ _
theorem plcL_yes {l m : List Nat} {ov : Nat → Int} {mt : Nat → Bool} (h : (plcL rec a l ov mt).1 = true) (hp : l <+: m) : plcL rec a m ov mt = plcL rec a l ov mt := by
  obtain ⟨t, rfl⟩ := hp
  rw [plcL_app, if_pos h]
theorem plcL_one {l : List Nat} {ov : Nat → Int} {mt : Nat → Bool} {b : Nat} (h : (plcL rec a l ov mt).1 = false) : plcL rec a (l ++ [b]) ov mt = plcL rec a [b] (plcL rec a l ov mt).2.1 (plcL rec a l ov mt).2.2 := by
  rw [plcL_app, if_neg (by rw [h]; decide)]
end
/-- What `over` holds: -1, or a weighing. -/
def OvIn (n : Nat) (ov : Nat → Int) : Prop := ∀ b, ov b = -1 ∨ (0 ≤ ov b ∧ ov b < (n : Int))
theorem OvIn.upd {n a : Nat} {ov : Nat → Int} (h : OvIn n ov) (ha : a < n) (b : Nat) : OvIn n (updI ov b (a : Int)) := fun c => by
  unfold updI
  by_cases e : c = b
  · rw [if_pos e]; exact .inr ⟨by omega, by omega⟩
  · rw [if_neg e]; exact h c
section
variable {n : Nat} {L : Nat → List Nat}
theorem plcL_in {rec : Nat → (Nat → Int) → (Nat → Bool) → Bool × (Nat → Int) × (Nat → Bool)} (hr : ∀ a ov mt, a < n → OvIn n ov → OvIn n (rec a ov mt).2.1 ∧ ∀ c, mt c = true → (rec a ov mt).2.2 c = true) {a : Nat} (ha : a < n) :
    ∀ (l : List Nat) (ov : Nat → Int) (mt : Nat → Bool), OvIn n ov → OvIn n (plcL rec a l ov mt).2.1 ∧ ∀ c, mt c = true → (plcL rec a l ov mt).2.2 c = true
  | [], ov, mt, h => ⟨h, fun _ hc => hc⟩
  | b :: l, ov, mt, h => by
    simp only [plcL]
    by_cases h1 : mt b = true
    · simp only [h1, if_true]; exact plcL_in hr ha l ov mt h
    · by_cases h2 : ov b < 0
      · simp only [h1, h2, if_true, if_false]; exact ⟨h.upd ha b, fun c hc => updB_mono hc⟩
      · have hb : (ov b).toNat < n := by have := h b; omega
        obtain ⟨k1, k2⟩ := hr (ov b).toNat ov (updB mt b true) hb h
        by_cases h3 : (rec (ov b).toNat ov (updB mt b true)).1 = true
        · simp only [h1, h2, h3, if_true, if_false]; exact ⟨k1.upd ha b, fun c hc => k2 c (updB_mono hc)⟩
        · simp only [h1, h2, h3, if_false]
          obtain ⟨j1, j2⟩ := plcL_in hr ha l _ (rec (ov b).toNat ov (updB mt b true)).2.2 k1
          exact ⟨j1, fun c hc => j2 c (k2 c (updB_mono hc))⟩
theorem plc_in : ∀ (k a : Nat) (ov : Nat → Int) (mt : Nat → Bool), a < n → OvIn n ov → OvIn n (plc L k a ov mt).2.1 ∧ ∀ c, mt c = true → (plc L k a ov mt).2.2 c = true
  | 0, _, ov, mt, _, h => ⟨h, fun _ hc => hc⟩
  | k + 1, a, ov, mt, ha, h => plcL_in (fun a ov mt => plc_in k a ov mt) ha (L a) ov mt h
end
/-! ### The blocks -/
def icell14 (f : Nat → Int) : List Value := (List.range 14).map fun i => .int .i64 (f i)
def bcell14 (g : Nat → Bool) : List Value := (List.range 14).map fun i => .bool (g i)
/-- Block O is `over`. -/
def BI (w : World) (O : Nat) (f : Nat → Int) : Prop := w.heap[O]? = some (.cells (icell14 f).toArray 112 (0, 0))
/-- Block M is a set. -/
def BB (w : World) (M : Nat) (g : Nat → Bool) : Prop := w.heap[M]? = some (.cells (bcell14 g).toArray 90 (0, 0))
theorem map14_upd {α β : Type} (F : α → β) (f : Nat → α) (b : Nat) (v : α) : ((List.range 14).map fun i => F (f i)).set b (F v) = (List.range 14).map fun i => F (if i = b then v else f i) := by
  refine List.ext_getElem? fun j => ?_
  rw [List.getElem?_set]
  by_cases hj : j < 14
  · by_cases e : b = j
    · subst e; simp [hj]
    · rw [if_neg e]; simp [hj, show ¬ j = b from fun h => e h.symm]
  · by_cases e : b = j
    · subst e; simp [hj]
    · rw [if_neg e]; simp [hj]
section
variable {w w' : World} {O M : Nat} {f : Nat → Int} {g : Nat → Bool}
theorem BI.cell (h : BI w O f) {b : Nat} (hb : b < 14) : w.cell? ⟨O, b, none⟩ = some (.int .i64 (f b)) := by
  rw [cell_of_row w O b _ _ _ h]; simp [icell14, hb]
theorem BB.cell (h : BB w M g) {b : Nat} (hb : b < 14) : w.cell? ⟨M, b, none⟩ = some (.bool (g b)) := by
  rw [cell_of_row w M b _ _ _ h]; simp [bcell14, hb]
theorem BI.frozen (h : BI w O f) (i : Nat) : w.frozen? ⟨O, i, none⟩ = false := by
  unfold BI at h; simp [World.frozen?, h]
theorem BB.frozen (h : BB w M g) (i : Nat) : w.frozen? ⟨M, i, none⟩ = false := by
  unfold BB at h; simp [World.frozen?, h]
theorem BI.lt (h : BI w O f) : O < w.heap.size := (Array.getElem?_eq_some_iff.1 h).1
theorem BB.lt (h : BB w M g) : M < w.heap.size := (Array.getElem?_eq_some_iff.1 h).1
theorem BI.set (h : BI w O f) (b : Nat) (v : Int) : BI (w.setCell ⟨O, b, none⟩ (.int .i64 v)) O (updI f b v) := by
  unfold BI icell14 at h ⊢
  simp only [World.setCell, Array.getElem?_modify, h, if_true, Option.map_some, List.setIfInBounds_toArray, Option.isSome_none, Bool.false_eq_true, if_false]
  rw [map14_upd (fun x : Int => Value.int .i64 x) f b v]; rfl
theorem BB.set (h : BB w M g) (b : Nat) (v : Bool) : BB (w.setCell ⟨M, b, none⟩ (.bool v)) M (updB g b v) := by
  unfold BB bcell14 at h ⊢
  simp only [World.setCell, Array.getElem?_modify, h, if_true, Option.map_some, List.setIfInBounds_toArray, Option.isSome_none, Bool.false_eq_true, if_false]
  rw [map14_upd (fun x : Bool => Value.bool x) g b v]; rfl
theorem BI.other (h : BI w O f) (p : Addr) (u : Value) (hn : O ≠ p.block) : BI (w.setCell p u) O f := (heap_setCell_ne _ _ _ _ hn).trans h
theorem BB.other (h : BB w M g) (p : Addr) (u : Value) (hn : M ≠ p.block) : BB (w.setCell p u) M g := (heap_setCell_ne _ _ _ _ hn).trans h
theorem BI.ext (h : BI w O f) (hx : Ext w w') : BI w' O f := (Below.block hx O h.lt).trans h
theorem BB.ext (h : BB w M g) (hx : Ext w w') : BB w' M g := (Below.block hx M h.lt).trans h
end
/-- How things stand within place: what its loop has done, and its result's cell. -/
structure PlS (W6 : World) (M O R : Nat) (s : Bool × (Nat → Int) × (Nat → Bool)) (W : World) : Prop where
  mt : BB W M s.2.2
  ov : BI W O s.2.1
  re : W.heap[R]? = some (.cells #[.bool s.1] 4 (0, 0))
  bel : BelS (fun k => k = M ∨ k = O ∨ k = R) W6 W
section
variable {W6 W W' : World} {M O R : Nat} {s : Bool × (Nat → Int) × (Nat → Bool)}
theorem PlS.ext (h : PlS W6 M O R s W) (hx : Ext W W') : PlS W6 M O R s W' := ⟨h.mt.ext hx, h.ov.ext hx, (Below.block hx R (Array.getElem?_eq_some_iff.1 h.re).1).trans h.re, h.bel.trans (Ext.belS hx)⟩
theorem cells_own {X Y : World} {row : Option Nat} {k : Nat} {cs : Array Value} {t : TypeId} {m : Nat × Nat} (h : X.heap[k]? = some (.cells cs t m)) (hg : X.grownBy Y row) (hr : ∀ r, row = some r → ∃ o : Obj, X.heap[r]? = some o ∧ o.isCells = false) : Y.heap[k]? = some (.cells cs t m) :=
  (hg.block k (Array.getElem?_eq_some_iff.1 h).1 (fun e => by obtain ⟨o, ho, hc⟩ := hr k e.symm; rw [h] at ho; cases ho; cases hc)).trans h
theorem pls_own {β : Type} {B : Nat} {f : β → Bool × (Nat → Int) × (Nat → Bool)} (hB : W6.heap.size ≤ B) : OwnFrom B (fun s W => PlS W6 M O R (f s) W) := fun s X Y row hs hg hr =>
  ⟨cells_own hs.mt hg fun r e => (hr r e).2, cells_own hs.ov hg fun r e => (hr r e).2, cells_own hs.re hg fun r e => (hr r e).2,
    hs.bel.1.grown hg (Nat.zero_le _) (fun _ _ => Nat.zero_le _), fun k hk hD => (hg.block k (Nat.lt_of_lt_of_le hk hs.bel.size) (fun e => by have := (hr k e.symm).1; omega)).trans (hs.bel.2 k hk hD)⟩
theorem PlS.keeps (h : PlS W6 M O R s W) (hb : BelS (fun k => k = M ∨ k = O ∨ k = R) W W') (B : Nat) : KeepsFrom B W W' :=
  ⟨hb.size, fun k o _ hk ho => hb.heap hk (fun hS => by
    rcases hS with rfl | rfl | rfl
    · rw [show W.heap[k]? = _ from h.mt] at hk; cases hk; cases ho
    · rw [show W.heap[k]? = _ from h.ov] at hk; cases hk; cases ho
    · rw [h.re] at hk; cases hk; cases ho)⟩
theorem PlS.congr {s' : Bool × (Nat → Int) × (Nat → Bool)} (h : PlS W6 M O R s W) (e : s' = s) : PlS W6 M O R s' W := e ▸ h
theorem PlS.put {D : Nat} (h : PlS W6 M O R s W) (hD : W6.heap.size ≤ D) (hk : W.heap[D]? = some (.deferred (some []))) : PlS W6 M O R s (W.putObj D (.deferred none)) :=
  pls_own (f := fun (_ : Unit) => s) (Nat.le_refl _) () W _ (some D) h (grownBy_putObj' W D _) (fun r e => by cases e; exact ⟨hD, _, hk, rfl⟩)
end
theorem cellset_bool {W : World} {R : Nat} {x : Bool} (h : W.heap[R]? = some (.cells #[.bool x] 4 (0, 0))) (y : Bool) : (W.setCell ⟨R, 0, none⟩ (.bool y)).heap[R]? = some (.cells #[.bool y] 4 (0, 0)) := by
  simp [World.setCell, Array.getElem?_modify, h]
theorem PlS.fz {W6 W : World} {M O R : Nat} {s : Bool × (Nat → Int) × (Nat → Bool)} (h : PlS W6 M O R s W) : W.frozen? ⟨R, 0, none⟩ = false := by
  simp [World.frozen?, h.re]
theorem PlS.fz2 {W6 W : World} {M O R : Nat} {s : Bool × (Nat → Int) × (Nat → Bool)} (h : PlS W6 M O R s W) (hRO : O ≠ R) (b : Nat) (v : Value) : (W.setCell ⟨O, b, none⟩ v).frozen? ⟨R, 0, none⟩ = false := by
  have h1 : (W.setCell ⟨O, b, none⟩ v).heap[R]? = some (.cells #[.bool s.1] 4 (0, 0)) := (heap_setCell_ne _ _ _ _ (Ne.symm hRO)).trans h.re
  simp [World.frozen?, h1]
theorem PlS.re_set {W6 W : World} {M O R : Nat} {x : Bool} {ov : Nat → Int} {mt : Nat → Bool} (h : PlS W6 M O R (x, ov, mt) W) (hRM : M ≠ R) (hRO : O ≠ R) (y : Bool) : PlS W6 M O R (y, ov, mt) (W.setCell ⟨R, 0, none⟩ (.bool y)) :=
  ⟨h.mt.other _ _ hRM, h.ov.other _ _ hRO, cellset_bool h.re y, h.bel.setCell _ _ (.inr (.inr rfl))⟩
theorem PlS.place {W6 W : World} {M O R : Nat} {x : Bool} {ov : Nat → Int} {mt : Nat → Bool} (h : PlS W6 M O R (x, ov, mt) W) (hMO : M ≠ O) (hRM : M ≠ R) (hRO : O ≠ R) (b a : Nat) :
    PlS W6 M O R (true, updI ov b a, mt) ((W.setCell ⟨O, b, none⟩ (.int .i64 (a : Int))).setCell ⟨R, 0, none⟩ (.bool true)) ∧ BelS (fun k => k = M ∨ k = O ∨ k = R) W ((W.setCell ⟨O, b, none⟩ (.int .i64 (a : Int))).setCell ⟨R, 0, none⟩ (.bool true)) := by
  have h1 : PlS W6 M O R (x, updI ov b a, mt) (W.setCell ⟨O, b, none⟩ (.int .i64 (a : Int))) :=
    ⟨h.mt.other _ _ hMO, h.ov.set b a, (heap_setCell_ne _ _ _ _ (Ne.symm hRO)).trans h.re, h.bel.setCell _ _ (.inr (.inl rfl))⟩
  exact ⟨h1.re_set hRM hRO true, ((BelS.refl _ _).setCell _ _ (.inr (.inl rfl))).setCell _ _ (.inr (.inr rfl))⟩
theorem PlS.over {W6 W W' : World} {M O R : Nat} {x : Bool} {s s' : Bool × (Nat → Int) × (Nat → Bool)} (h : PlS W6 M O R (x, s.2) W) (hb : BelS (fun k => k = M ∨ k = O) W W') (hR : M ≠ R) (hR2 : O ≠ R) (h1 : BB W' M s'.2.2) (h2 : BI W' O s'.2.1) :
    PlS W6 M O R (x, s'.2) W' ∧ BelS (fun k => k = M ∨ k = O ∨ k = R) W W' := by
  have hb' : BelS (fun k => k = M ∨ k = O ∨ k = R) W W' := hb.mono fun k _ hk => hk.elim .inl fun e => .inr (.inl e)
  exact ⟨⟨h1, h2, hb.heap h.re (fun e => e.elim (fun e => hR e.symm) fun e => hR2 e.symm), h.bel.trans hb'⟩, hb'⟩
theorem results_cell {fn : Func} {p : Tmp} {ty : TypeId} (h : fn.results = #[.cell p ty]) (tmps : Array Value) (P : Program) (w : World) :
    (results fn tmps).run P w = ((asAddr (tmps.getD p undef)).run P w).andThen fun a w₁ => (loadVar ty a).run P w₁ := by
  simp only [results, h]
  simp [Sem.run_bind, Result.andThen]
theorem results_bool {fn : Func} {p : Tmp} (h : fn.results = #[.cell p 4]) (tmps : Array Value) (w : World) (R : Nat) {x : Bool} (hp : tmps.getD p undef = .pointer (some ⟨R, 0, none⟩)) (hg : w.heap[R]? = some (.cells #[.bool x] 4 (0, 0))) :
    (results fn tmps).run Tryz.prog w = .ok (.bool x) w := by
  rw [results_cell h, hp]
  have hc : w.cell? ⟨R, 0, none⟩ = some (.bool x) := by rw [cell_of_row w R 0 _ _ _ hg]; rfl
  go_simp
end Go.Proofs.YtjnobdcbbboeeaaGreat

namespace Go.Proofs.YtjnobdcbbboeeaaGreat
open Go Go.RowKit Go.Shelf
set_option linter.unusedVariables false
set_option linter.unusedSimpArgs false
attribute [local go_sem] Oper.semAt_some

abbrev plcB (Bd M O Pl : Nat) : Array Value := #[.pointer (some ⟨Bd, 0, none⟩), .pointer (some ⟨M, 0, none⟩), .pointer (some ⟨O, 0, none⟩), .pointer (some ⟨Pl, 0, none⟩)]
def PlPost (W : World) (M O : Nat) (s : Bool × (Nat → Int) × (Nat → Bool)) (e : Ending) (W' : World) : Prop :=
  e = .returned (.bool s.1) ∧ BelS (fun k => k = M ∨ k = O) W W' ∧ BB W' M s.2.2 ∧ BI W' O s.2.1
set_option maxRecDepth 100000 in
set_option maxHeartbeats 4000000 in
theorem place_any (h : Hs) (D Bd M O Pl : Nat) (A : Option Addr) (c : Nat) (hn : h.ws.length ≤ 14) (hMO : M ≠ O) (hDM : D ≠ M) (hDO : D ≠ O) (hBM : Bd ≠ M) (hBO : Bd ≠ O) (hPM : Pl ≠ M) (hPO : Pl ≠ O) : ∀ (k a : Nat) (ov : Nat → Int) (mt : Nat → Bool) (W : World),
    um h.ws.length mt < k → a < h.ws.length → OvIn h.ws.length ov → Dsk W D A c h (claG h) → W.cell? ⟨Bd, 0, none⟩ = some (.pointer (some ⟨D, 0, none⟩)) → BB W M mt → BI W O ov →
    W.cell? ⟨Pl, 0, none⟩ = some (.func (.func 66) #[] (plcB Bd M O Pl)) →
    Calls Tryz.prog 66 (#[.int .i64 (a : Int)] ++ plcB Bd M O Pl) W (PlPost W M O (plc (belH h) k a ov mt)) := by
  intro k
  induction k with
  | zero => intro a ov mt W hu; omega
  | succ k ih =>
  intro a ov mt W hu ha hov hd hbd hM hO hP
  have HIH := hid ih
  clear ih
  obtain ⟨N, hN⟩ : ∃ N : Nat, h.ws.length = N := ⟨_, rfl⟩
  obtain ⟨F, hF⟩ : ∃ F, plc (belH h) (k + 1) a ov mt = F := ⟨_, rfl⟩
  have HF : Hid (plcL (plc (belH h) k) a (belH h a) ov mt = F) := hF
  rw [hF]
  clear hF
  have HOV := hid hov
  have HU := hid hu
  clear hov hu
  refine callsIn_wide (n := 9).1 ?_
  refine callsIn_of_wp_marks Tryz.func66 rfl trivial ?_ rfl
  simp only [plcB, List.append_toArray, List.cons_append, List.nil_append, Tryz.ntmps66, List.size_toArray, List.length_cons, List.length_nil, Nat.reduceAdd, Nat.reduceSub, Array.replicate_succ, Array.replicate_zero, List.push_toArray, List.append_toArray, List.nil_append, List.cons_append]
  have g0o : ∀ o o', ((W.alloc o).alloc o').cell? ⟨Bd, 0, none⟩ = some (.pointer (some ⟨D, 0, none⟩)) := fun o o' => (((Ext.refl W).alloc o).alloc o').cell hbd
  gi_wp2_with fail
  clear g0o
  obtain ⟨W5, hW5⟩ : ∃ W5, (W.alloc (.cells #[.int .i64 (a : Int)] 3)).alloc (.cells #[.bool false] 4) = W5 := ⟨_, rfl⟩
  have hx5 : Ext W W5 := by rw [← hW5]; exact ((Ext.refl _).alloc _).alloc _
  have ka : W5.cell? ⟨W.heap.size, 0, none⟩ = some (.int .i64 (a : Int)) := by rw [← hW5]; simp [go_sem]
  have hr5 : W5.heap[W.heap.size + 1]? = some (.cells #[.bool false] 4 (0, 0)) := by
    rw [← hW5]
    have h := heap_alloc_new (W.alloc (.cells #[.int .i64 (a : Int)] 3)) (.cells #[.bool false] 4)
    simpa using h
  have hz5 : W.heap.size + 2 ≤ W5.heap.size := by rw [← hW5]; simp
  rw [hW5]
  clear hW5
  have g0 := hx5.cell hbd
  have gP := hx5.cell hP
  refine ⟨trivial, (callsIn_wide.2 (below_any D a _)).mono ?_⟩
  rintro e w6 ⟨rfl, rfl⟩
  obtain ⟨W6, hW6⟩ : ∃ W6, (W5.alloc (.cells #[.pointer (some ⟨D, 0, none⟩)] 73)).alloc (.cells #[.int .i64 (a : Int)] 3) = W6 := ⟨_, rfl⟩
  have hx6 : Ext W5 W6 := by rw [← hW6]; exact ((Ext.refl _).alloc _).alloc _
  have kd : W6.cell? ⟨W5.heap.size, 0, none⟩ = some (.pointer (some ⟨D, 0, none⟩)) := by rw [← hW6]; simp [go_sem]
  have kp : W6.cell? ⟨W5.heap.size + 1, 0, none⟩ = some (.int .i64 (a : Int)) := by rw [← hW6]; simp [go_sem]
  rw [hW6]
  clear hW6
  have hx : Ext W W6 := hx5.trans hx6
  have hBdl := World.block_lt_of_cell? _ _ hbd
  have hPl := World.block_lt_of_cell? _ _ hP
  simp only at hBdl hPl
  have f0 := hx6.cell g0
  have fP := hx6.cell gP
  have fa := hx6.cell ka
  clear g0 gP ka hP hbd
  have hz6 := hx6.size
  have hd6 := hd.ext hx
  have hDl := hd.lt
  have hMl := hM.lt
  have hOl := hO.lt
  have hP6 : PlS W6 M O (W.heap.size + 1) (false, ov, mt) W6 := ⟨hM.ext hx, hO.ext hx, (Below.block hx6 _ (Array.getElem?_eq_some_iff.1 hr5).1).trans hr5, BelS.refl _ _⟩
  clear hM hO hr5
  gi_wp2
  refine wpIn_rangeFunc_ownH (F := Fence.wide) (n := 9) rfl (by omega) (gf := 90) (lb := #[.pointer (some ⟨W5.heap.size, 0, none⟩), .pointer (some ⟨W5.heap.size + 1, 0, none⟩)]) rfl trivial (enters_of Tryz.func90 (by kernel_rfl) rfl)
    (below_stops _ D W5.heap.size (W5.heap.size + 1) (fun k => k = M ∨ k = O ∨ k = W.heap.size + 1) h A c a W6 hn ha (by omega) (by omega) (by omega) hd6 kd kp) KcS.trans kcS_b (Below.refl _ _) (fun _ => rfl)
    (fun pre W' => (plcL (plc (belH h) k) a (pre.map (·.1)) ov mt).1 = false ∧ PlS W6 M O (W.heap.size + 1) (plcL (plc (belH h) k) a (pre.map (·.1)) ov mt) W')
    (fun cd pre W' => (cd = Code.ret ∧ (plcL (plc (belH h) k) a (pre.map (·.1)) ov mt).1 = true) ∧ PlS W6 M O (W.heap.size + 1) (plcL (plc (belH h) k) a (pre.map (·.1)) ov mt) W')
    (OwnFrom.and (fun _ _ _ _ hs _ _ => hs) (pls_own (f := fun pre : List (NP (belH h a)) => plcL (plc (belH h) k) a (pre.map (·.1)) ov mt) (Nat.le_refl _)))
    (fun cd => OwnFrom.and (fun _ _ _ _ hs _ _ => hs) (pls_own (f := fun pre : List (NP (belH h a)) => plcL (plc (belH h) k) a (pre.map (·.1)) ov mt) (Nat.le_refl _))) ⟨rfl, hP6⟩
    (fun x a' W' => a' = { tmps := (List.toArray (.int .i64 (a : Int) :: .pointer (some ⟨Bd, 0, none⟩) :: .pointer (some ⟨M, 0, none⟩) :: .pointer (some ⟨O, 0, none⟩) :: .pointer (some ⟨Pl, 0, none⟩) :: .pointer (some ⟨W.heap.size, 0, none⟩) :: .pointer (some ⟨W.heap.size + 1, 0, none⟩) :: .int .i64 (x.1 : Int) :: .pointer (some ⟨D, 0, none⟩) :: .int .i64 (a : Int) ::
      .func (.func 90) #[] #[.pointer (some ⟨W5.heap.size, 0, none⟩), .pointer (some ⟨W5.heap.size + 1, 0, none⟩)] :: .int .i64 (x.1 : Int) :: undef :: undef :: undef :: undef :: undef :: undef :: undef :: undef :: undef :: undef :: undef :: undef :: undef :: undef :: undef :: undef :: undef :: undef :: undef :: [])), defers := [] })
    (fun x a' _ X Y row hs hg hr => hs)
    ?assign ?body ?done ?stop
  case assign =>
    rintro lv pre x W' K hi hK
    simp only [encNP] at *
    gi_wp2
    refine hK _ _ ⟨Nat.le_refl _, fun k o h1 hk ho => hk⟩ (KcS.refl _ _) hi ?_
    rfl
  case body =>
    rintro lv pre x a' W' hl ⟨r, hr⟩ ⟨i1, i2⟩ rfl hlt2
    obtain ⟨b, hb⟩ := x
    have hbN : b < h.ws.length := belH_lt h a b hb
    have hb14 : (b : Int) < 14 := by omega
    have hb14' : b < 14 := by omega
    have hst := plcL_one (b := b) i1
    have hin := plcL_in (fun a ov mt => plc_in (L := belH h) k a ov mt) ha (pre.map (·.1)) ov mt HOV.out
    have HAP : Hid (plcL (plc (belH h) k) a ((pre ++ [(⟨b, hb⟩ : NP (belH h a))]).map (·.1)) ov mt = plcL (plc (belH h) k) a [b] (plcL (plc (belH h) k) a (pre.map (·.1)) ov mt).2.1 (plcL (plc (belH h) k) a (pre.map (·.1)) ov mt).2.2) := by
      unfold Hid; rw [List.map_append]; exact hst
    clear hst
    obtain ⟨⟨s1, ov1, mt1⟩, hs⟩ : ∃ s, plcL (plc (belH h) k) a (pre.map (·.1)) ov mt = s := ⟨_, rfl⟩
    simp only [hs] at i1 i2 hin HAP
    subst i1
    obtain ⟨hin1, hin2⟩ := hin
    have hum : um h.ws.length mt1 < k + 1 := Nat.lt_of_le_of_lt (um_mono hin2) HU.out
    have j0 := i2.bel.cell f0 (by simp only; omega)
    have jP := i2.bel.cell fP (by simp only; omega)
    have ja := i2.bel.cell fa (by simp only; omega)
    have cm := i2.mt.cell hb14'
    simp only at cm
    by_cases hm : mt1 b = true
    · rw [hm] at cm
      have HP2 : Hid (plcL (plc (belH h) k) a ((pre ++ [(⟨b, hb⟩ : NP (belH h a))]).map (·.1)) ov mt = (false, ov1, mt1)) := by
        unfold Hid; rw [HAP.out]; simp [plcL, hm]
      gi_wp2
      exact ⟨KeepsFrom.refl _ _, KcS.refl _ _, congrArg Prod.fst HP2.out, i2.congr HP2.out⟩
    · have hm' : mt1 b = false := by simpa using hm
      rw [hm'] at cm
      have fzM := i2.mt.frozen b
      have hM3 := i2.mt.set b true
      have hO3 := i2.ov.other ⟨M, b, none⟩ (.bool true) (Ne.symm hMO)
      have hb3 : BelS (fun k => k = M ∨ k = O ∨ k = W.heap.size + 1) W' (W'.setCell ⟨M, b, none⟩ (.bool true)) := (BelS.refl _ _).setCell _ _ (.inl rfl)
      have hR3 : (W'.setCell ⟨M, b, none⟩ (.bool true)).heap[W.heap.size + 1]? = some (.cells #[.bool false] 4 (0, 0)) := (heap_setCell_ne _ _ _ _ (by show W.heap.size + 1 ≠ M; omega)).trans i2.re
      obtain ⟨W3, hW3⟩ : ∃ W3, W'.setCell ⟨M, b, none⟩ (.bool true) = W3 := ⟨_, rfl⟩
      rw [hW3] at hM3 hO3 hb3 hR3
      have j0' := hb3.cell j0 (by simp only; omega)
      have jP' := hb3.cell jP (by simp only; omega)
      have ja' := hb3.cell ja (by simp only; omega)
      have co := hO3.cell hb14'
      have i3 : PlS W6 M O (W.heap.size + 1) (false, ov1, updB mt1 b true) W3 := ⟨hM3, hO3, hR3, i2.bel.trans hb3⟩
      gi_wp2_with fail
      try rw [hW3]
      clear hW3 cm fzM j0 jP ja
      rcases hin1 b with hv | ⟨hv0, hvN⟩
      · rw [hv] at co
        have FX : Hid (∀ w', Ext W3 w' → w'.cell? ⟨O, b, none⟩ = some (.int .i64 (-1)) ∧ True) := fun w' hx => ⟨hx.cell co, trivial⟩
        have HP2 : Hid (plcL (plc (belH h) k) a ((pre ++ [(⟨b, hb⟩ : NP (belH h a))]).map (·.1)) ov mt = (true, updI ov1 b a, updB mt1 b true)) := by
          unfold Hid; rw [HAP.out]; simp [plcL, hm', hv]
        have HQ : Hid (True) := trivial
        refine wpIn_region_shut Ext (fun w' => Ext W3 w') (fun _ => none) (by kernel_rfl) (by kernel_rfl) (fun _ _ h k => h.trans k) (fun i R h => by cases h) (Ext.drew (Ext.refl W3)) ?_
        refine wM_val ?ua0 rfl rfl Ext.refl (fun w' hD => ?ha0) (fun pha0 => ?na0)
        case ha0 =>
          obtain ⟨d0, d1⟩ := FX.out w' hD.1
          go_simp; rfl
        simp only [Act.put, List.setIfInBounds_toArray, List.set_cons_succ, List.set_cons_zero, Nat.reduceAdd]
        refine wM_val ?ua1 rfl rfl Ext.refl (fun w' hD => ?ha1) (fun pha1 => ?na1)
        case ha1 =>
          obtain ⟨d0, d1⟩ := FX.out w' hD.1
          go_simp; rfl
        simp only [Act.put, List.setIfInBounds_toArray, List.set_cons_succ, List.set_cons_zero, Nat.reduceAdd]
        refine wM_val ?ua2 rfl rfl Ext.refl (fun w' hD => ?ha2) (fun pha2 => ?na2)
        case ha2 =>
          obtain ⟨d0, d1⟩ := FX.out w' hD.1
          go_simp; rfl
        simp only [Act.put, List.setIfInBounds_toArray, List.set_cons_succ, List.set_cons_zero, Nat.reduceAdd]
        refine wM_val ?ua3 rfl rfl Ext.refl (fun w' hD => ?ha3) (fun pha3 => ?na3)
        case ha3 =>
          obtain ⟨d0, d1⟩ := FX.out w' hD.1
          go_simp; rfl
        simp only [Act.put, List.setIfInBounds_toArray, List.set_cons_succ, List.set_cons_zero, Nat.reduceAdd]
        try rw [HQ.out]
        refine wM_val ?ua4 rfl rfl Ext.refl (fun w' hD => ?ha4) (fun pha4 => ?na4)
        case ha4 =>
          obtain ⟨d0, d1⟩ := FX.out w' hD.1
          go_simp; rfl
        simp only [Act.put, List.setIfInBounds_toArray, List.set_cons_succ, List.set_cons_zero, Nat.reduceAdd]
        refine wM_skip rfl ?_
        simp only [Act.put, List.setIfInBounds_toArray, List.set_cons_succ, List.set_cons_zero, Nat.reduceAdd]
        refine wM_skip rfl ?_
        simp only [Act.put, List.setIfInBounds_toArray, List.set_cons_succ, List.set_cons_zero, Nat.reduceAdd]
        refine wM_skip rfl ?_
        simp only [Act.put, List.setIfInBounds_toArray, List.set_cons_succ, List.set_cons_zero, Nat.reduceAdd]
        refine wM_skip rfl ?_
        simp only [Act.put, List.setIfInBounds_toArray, List.set_cons_succ, List.set_cons_zero, Nat.reduceAdd]
        refine wM_skip rfl ?_
        simp only [Act.put, List.setIfInBounds_toArray, List.set_cons_succ, List.set_cons_zero, Nat.reduceAdd]
        refine wM_val ?ua10 rfl rfl Ext.refl (fun w' hD => ?ha10) (fun pha10 => ?na10)
        case ha10 =>
          obtain ⟨d0, d1⟩ := FX.out w' hD.1
          go_simp; rfl
        simp only [Act.put, List.setIfInBounds_toArray, List.set_cons_succ, List.set_cons_zero, Nat.reduceAdd]
        refine wM_nil ?_
        intro w9 hw9 hF9
        have k0 := hw9.cell ja'
        have i4 := i3.ext hw9
        have fzO := i4.ov.frozen b
        have co9 := i4.ov.cell hb14'
        have re9 : w9.cell? ⟨W.heap.size + 1, 0, none⟩ = some (.bool false) := by rw [cell_of_row w9 _ 0 _ _ _ i4.re]; rfl
        obtain ⟨iP, hbP⟩ := i4.place hMO (by omega) (by omega) b a
        have fz2 := i4.fz2 (by omega) b (.int .i64 (a : Int))
        gi_wp2
        exact ⟨i2.keeps ((hb3.trans (Ext.belS hw9)).trans hbP) _, ⟨rfl, congrArg Prod.fst HP2.out⟩, iP.congr HP2.out⟩
      · obtain ⟨q, hq⟩ : ∃ q : Nat, ov1 b = (q : Int) := ⟨(ov1 b).toNat, by omega⟩
        rw [hq] at co
        have hqN : q < h.ws.length := by omega
        have HQ : Hid (((q : Int) == -1) = false) := by unfold Hid; simp
        have humq : um h.ws.length (updB mt1 b true) < k := by have := um_upd hbN hm'; omega
        have FX : Hid (∀ w', Ext W3 w' → w'.cell? ⟨O, b, none⟩ = some (.int .i64 (q : Int)) ∧ w'.cell? ⟨Pl, 0, none⟩ = some (.func (.func 66) #[] (plcB Bd M O Pl))) := fun w' hx => ⟨hx.cell co, hx.cell jP'⟩
        have HP2 : Hid (plcL (plc (belH h) k) a ((pre ++ [(⟨b, hb⟩ : NP (belH h a))]).map (·.1)) ov mt = if (plc (belH h) k q ov1 (updB mt1 b true)).1 = true then (true, updI (plc (belH h) k q ov1 (updB mt1 b true)).2.1 b a, (plc (belH h) k q ov1 (updB mt1 b true)).2.2) else (false, (plc (belH h) k q ov1 (updB mt1 b true)).2.1, (plc (belH h) k q ov1 (updB mt1 b true)).2.2)) := by
          unfold Hid; rw [HAP.out]
          simp only [plcL, hm', Bool.false_eq_true, if_false, show ¬ ov1 b < 0 by omega, show (ov1 b).toNat = q by omega]
        refine wpIn_region_shut_tail Ext (fun w' => Ext W3 w') (fun _ => none) 9 (by kernel_rfl) (by kernel_rfl) (fun _ _ h k => h.trans k) (fun i R h => by cases h) (Ext.drew (Ext.refl W3)) ?_
        refine wM_val ?ub0 rfl rfl Ext.refl (fun w' hD => ?hb0) (fun phb0 => ?nb0)
        case hb0 =>
          obtain ⟨d0, d1⟩ := FX.out w' hD.1
          go_simp; rfl
        simp only [Act.put, List.setIfInBounds_toArray, List.set_cons_succ, List.set_cons_zero, Nat.reduceAdd]
        refine wM_val ?ub1 rfl rfl Ext.refl (fun w' hD => ?hb1) (fun phb1 => ?nb1)
        case hb1 =>
          obtain ⟨d0, d1⟩ := FX.out w' hD.1
          go_simp; rfl
        simp only [Act.put, List.setIfInBounds_toArray, List.set_cons_succ, List.set_cons_zero, Nat.reduceAdd]
        refine wM_val ?ub2 rfl rfl Ext.refl (fun w' hD => ?hb2) (fun phb2 => ?nb2)
        case hb2 =>
          obtain ⟨d0, d1⟩ := FX.out w' hD.1
          go_simp; rfl
        simp only [Act.put, List.setIfInBounds_toArray, List.set_cons_succ, List.set_cons_zero, Nat.reduceAdd]
        refine wM_val ?ub3 rfl rfl Ext.refl (fun w' hD => ?hb3) (fun phb3 => ?nb3)
        case hb3 =>
          obtain ⟨d0, d1⟩ := FX.out w' hD.1
          go_simp; rfl
        simp only [Act.put, List.setIfInBounds_toArray, List.set_cons_succ, List.set_cons_zero, Nat.reduceAdd]
        try rw [HQ.out]
        refine wM_val ?ub4 rfl rfl Ext.refl (fun w' hD => ?hb4) (fun phb4 => ?nb4)
        case hb4 =>
          obtain ⟨d0, d1⟩ := FX.out w' hD.1
          go_simp; rfl
        simp only [Act.put, List.setIfInBounds_toArray, List.set_cons_succ, List.set_cons_zero, Nat.reduceAdd]
        refine wM_val ?ub5 rfl rfl Ext.refl (fun w' hD => ?hb5) (fun phb5 => ?nb5)
        case hb5 =>
          obtain ⟨d0, d1⟩ := FX.out w' hD.1
          go_simp; rfl
        simp only [Act.put, List.setIfInBounds_toArray, List.set_cons_succ, List.set_cons_zero, Nat.reduceAdd]
        refine wM_val ?ub6 rfl rfl Ext.refl (fun w' hD => ?hb6) (fun phb6 => ?nb6)
        case hb6 =>
          obtain ⟨d0, d1⟩ := FX.out w' hD.1
          go_simp; rfl
        simp only [Act.put, List.setIfInBounds_toArray, List.set_cons_succ, List.set_cons_zero, Nat.reduceAdd]
        refine wM_val ?ub7 rfl rfl Ext.refl (fun w' hD => ?hb7) (fun phb7 => ?nb7)
        case hb7 =>
          obtain ⟨d0, d1⟩ := FX.out w' hD.1
          go_simp; rfl
        simp only [Act.put, List.setIfInBounds_toArray, List.set_cons_succ, List.set_cons_zero, Nat.reduceAdd]
        refine wM_val ?ub8 rfl rfl Ext.refl (fun w' hD => ?hb8) (fun phb8 => ?nb8)
        case hb8 =>
          obtain ⟨d0, d1⟩ := FX.out w' hD.1
          go_simp; rfl
        simp only [Act.put, List.setIfInBounds_toArray, List.set_cons_succ, List.set_cons_zero, Nat.reduceAdd]
        refine wM_nil ?_
        intro w9 hw9 hF9
        have k0 := hw9.cell ja'
        have i4 := i3.ext hw9
        have hd9 : Dsk w9 D A c h (claG h) := i4.bel.heap hd6 (by omega)
        have KK := HIH.out q ov1 (updB mt1 b true) w9 humq hqN hin1 hd9 (hw9.cell j0') i4.mt i4.ov (hw9.cell jP')
        simp only [List.drop_succ_cons, List.drop_zero]
        gi_wp2_with fail
        refine ⟨trivial, (CallsIn.inRound lv (callsIn_wide.2 KK)).mono ?_⟩
        rintro e w2 ⟨rfl, hb2, hmt2, hov2⟩
        obtain ⟨i5, hb5⟩ := i4.over (s := (false, ov1, updB mt1 b true)) hb2 (by omega) (by omega) hmt2 hov2
        obtain ⟨⟨r1, ov2, mt2⟩, hr2⟩ : ∃ r, plc (belH h) k q ov1 (updB mt1 b true) = r := ⟨_, rfl⟩
        rw [hr2] at i5 HP2 ⊢
        have k2 := hb2.cell k0 (by simp only; omega)
        have hb6 := (hb3.trans (Ext.belS hw9)).trans hb5
        cases r1
        · have HP3 : Hid (plcL (plc (belH h) k) a ((pre ++ [(⟨b, hb⟩ : NP (belH h a))]).map (·.1)) ov mt = (false, ov2, mt2)) := by
            unfold Hid; rw [HP2.out]; rfl
          gi_wp2
          exact ⟨i2.keeps hb6 _, hb6.kcS, congrArg Prod.fst HP3.out, i5.congr HP3.out⟩
        · have HP3 : Hid (plcL (plc (belH h) k) a ((pre ++ [(⟨b, hb⟩ : NP (belH h a))]).map (·.1)) ov mt = (true, updI ov2 b a, mt2)) := by
            unfold Hid; rw [HP2.out]; rfl
          obtain ⟨iP, hbP⟩ := i5.place hMO (by omega) (by omega) b a
          have fz2 := i5.fz2 (by omega) b (.int .i64 (a : Int))
          have fzO := i5.ov.frozen b
          have co9 := i5.ov.cell hb14'
          have re9 : w2.cell? ⟨W.heap.size + 1, 0, none⟩ = some (.bool false) := by rw [cell_of_row w2 _ 0 _ _ _ i5.re]; rfl
          gi_wp2
          exact ⟨i2.keeps (hb6.trans hbP) _, ⟨rfl, congrArg Prod.fst HP3.out⟩, iP.congr HP3.out⟩
  case done =>
    rintro D3 xs W3 hD3 hxs ⟨i1, i2⟩ hK3
    have HE : Hid (plcL (plc (belH h) k) a (xs.map (·.1)) ov mt = F) := by
      unfold Hid; rw [show xs.map (·.1) = belH h a from hxs]; exact HF.out
    rw [HE.out] at i1 i2
    obtain ⟨F1, F2, F3⟩ := F
    subst i1
    have i3 := i2.re_set (by omega) (by omega) false
    have hK4 : (W3.setCell ⟨W.heap.size + 1, 0, none⟩ (.bool false)).heap[D3]? = some (.deferred (some [])) := (heap_setCell_ne _ _ _ _ (by show D3 ≠ W.heap.size + 1; omega)).trans hK3
    have i5 := i3.put hD3 hK4
    have fz3 := i2.fz
    have re9 : W3.cell? ⟨W.heap.size + 1, 0, none⟩ = some (.bool false) := by rw [cell_of_row W3 _ 0 _ _ _ i2.re]; rfl
    have ree := i5.re
    have hbe := BelS.then_ (S' := fun k => k = M ∨ k = O) (Ext.belS hx) i5.bel (fun i hi hS => by rcases hS with rfl | rfl | rfl; exact .inl rfl; exact .inr rfl; omega)
    gi_wp2
    refine ⟨by simp, .inl ⟨_, _, rfl, run_takeDeferred hK4, ?_⟩⟩
    refine ⟨.bool false, ?_, rfl, hbe, i5.mt, i5.ov⟩
    exact results_bool rfl _ _ _ rfl ree
  case stop =>
    rintro D3 cd pre W3 hD3 hpre ⟨⟨rfl, i1⟩, i2⟩ hK3
    have HE : Hid (plcL (plc (belH h) k) a (pre.map (·.1)) ov mt = F) := by
      unfold Hid; rw [← plcL_yes i1 hpre]; exact HF.out
    rw [HE.out] at i1 i2
    obtain ⟨F1, F2, F3⟩ := F
    subst i1
    have i5 := i2.put hD3 hK3
    have ree := i5.re
    have hbe := BelS.then_ (S' := fun k => k = M ∨ k = O) (Ext.belS hx) i5.bel (fun i hi hS => by rcases hS with rfl | rfl | rfl; exact .inl rfl; exact .inr rfl; omega)
    gi_wp2
    refine ⟨by simp, .inl ⟨_, _, rfl, run_takeDeferred hK3, ?_⟩⟩
    refine ⟨.bool true, ?_, rfl, hbe, i5.mt, i5.ov⟩
    exact results_bool rfl _ _ _ rfl ree
end Go.Proofs.YtjnobdcbbboeeaaGreat

namespace Go.Proofs.YtjnobdcbbboeeaaGreat
open Go Go.RowKit
set_option linter.unusedVariables false
set_option linter.unusedSimpArgs false

def Marks (B : Nat) (ds : List Deferred) (W : World) : Prop :=
  ∃ rs : List Nat, ds = rs.map (fun r => { target := .collected r, args := #[] }) ∧ rs.Nodup ∧ ∀ r ∈ rs, B ≤ r ∧ W.heap[r]? = some (.deferred (some []))
theorem Marks.nil (B : Nat) (W : World) : Marks B [] W := ⟨[], rfl, List.nodup_nil, fun r h => by cases h⟩
theorem Marks.belS {B : Nat} {S : Nat → Prop} {ds : List Deferred} {W W' : World} (h : Marks B ds W) (hb : BelS S W W') (hD : ∀ k x, S k → W.heap[k]? ≠ some (.deferred x)) : Marks B ds W' := by
  obtain ⟨rs, e, hn, hr⟩ := h
  exact ⟨rs, e, hn, fun r hm => ⟨(hr r hm).1, hb.heap (hr r hm).2 (fun e => hD _ _ e (hr r hm).2)⟩⟩
theorem Marks.ext {B : Nat} {ds : List Deferred} {W W' : World} (h : Marks B ds W) (hb : Ext W W') : Marks B ds W' := h.belS (S := fun _ => False) (Ext.belS hb) (fun _ _ e => e.elim)
theorem Marks.cons {B : Nat} {ds : List Deferred} {W : World} {r n : Nat} (h : Marks B ds W) (hr : W.heap[r]? = some (.deferred (some []))) (hB : B ≤ r) (hlt : ∀ k, n ≤ k → ({ target := .collected k, args := #[] } : Deferred) ∉ ds) (hn : n ≤ r) :
    Marks B ({ target := .collected r, args := #[] } :: ds) W := by
  obtain ⟨rs, e, hnd, hh⟩ := h
  refine ⟨r :: rs, by rw [e]; rfl, List.nodup_cons.2 ⟨fun hm => hlt r hn (by rw [e]; exact List.mem_map.2 ⟨r, hm, rfl⟩), hnd⟩, fun x hx => ?_⟩
  rcases List.mem_cons.1 hx with rfl | hx
  · exact ⟨hB, hr⟩
  · exact hh x hx
theorem Marks.lt {B : Nat} {ds : List Deferred} {W : World} (h : Marks B ds W) : ∀ k, W.heap.size ≤ k → ({ target := .collected k, args := #[] } : Deferred) ∉ ds := fun k hk hm => by
  obtain ⟨rs, e, hnd, hh⟩ := h
  rw [e] at hm
  obtain ⟨r, hr, e2⟩ := List.mem_map.1 hm
  have := (Array.getElem?_eq_some_iff.1 (hh r hr).2).1
  simp only [Deferred.mk.injEq, Target.collected.injEq, and_true] at e2
  omega
theorem leaves_marks {F : Fence} {n : Nat} {P : Program} {fn : Func} {tmps : Array Value} {R : Ending → World → Prop} {B : Nat} {u : FrameMode} (hu : u ≠ .run) : ∀ (ds : List Deferred) (W : World), Marks B ds W →
    (∀ W', Below B W W' → (∀ (k : Nat) (o : Obj), W.heap[k]? = some o → (∀ x, o ≠ .deferred x) → W'.heap[k]? = some o) → LeavesIn F n P fn tmps R [] u W') → LeavesInM F n P fn tmps R ds u W := by
  intro ds
  induction ds with
  | nil => exact fun W _ h => h W (Below.refl _ _) (fun _ _ h _ => h)
  | cons d ds ih =>
    intro W hM h
    obtain ⟨rs, e, hn, hr⟩ := hM
    cases rs with
    | nil => cases e
    | cons r rs =>
      simp only [List.map_cons, List.cons.injEq] at e
      obtain ⟨rfl, e2⟩ := e
      have hK := (hr r (by simp)).2
      have hBr := (hr r (by simp)).1
      refine ⟨hu, .inl ⟨_, _, rfl, run_takeDeferred hK, ?_⟩⟩
      refine ih _ ⟨rs, e2, (List.nodup_cons.1 hn).2, fun x hx => ⟨(hr x (by simp [hx])).1, ?_⟩⟩ fun W' hb hc => h W' ?_ ?_
      · rw [World.putObj_heap_other (fun e => (List.nodup_cons.1 hn).1 (by rw [← e]; exact hx))]
        exact (hr x (by simp [hx])).2
      · exact ((Below.refl B W).grown (grownBy_putObj' W r (.deferred none)) (by have := (Array.getElem?_eq_some_iff.1 hK).1; omega) (fun k e => by cases e; omega)).trans hb
      · intro k o hk ho
        refine hc k o ?_ ho
        rw [World.putObj_heap_other (fun e => by rw [← e, hk] at hK; cases hK; exact ho _ rfl)]
        exact hk
theorem own_ext {β : Type} {B : Nat} {w0 : World} (hB : w0.heap.size ≤ B) : OwnFrom B (fun (_ : β) W => Ext w0 W) := fun _ X Y row hs hg hr =>
  Ext.grown hs hg (fun k e => by have := (hr k e).1; omega)
theorem own_belS {β : Type} {B : Nat} {S : Nat → Prop} {w0 : World} (hB : w0.heap.size ≤ B) : OwnFrom B (fun (_ : β) W => BelS S w0 W) := fun _ X Y row hs hg hr =>
  ⟨hs.1.grown hg (Nat.zero_le _) (fun _ _ => Nat.zero_le _), fun k hk hD => (hg.block k (Nat.lt_of_lt_of_le hk hs.size) (fun e => by have := (hr k e.symm).1; omega)).trans (hs.2 k hk hD)⟩
theorem own_cells {β : Type} {B R : Nat} (cs : Array Value) (t : TypeId) (m : Nat × Nat) : OwnFrom B (fun (_ : β) W => W.heap[R]? = some (.cells cs t m)) := fun _ X Y row hs hg hr =>
  cells_own hs hg fun r e => (hr r e).2
theorem keeps_ext {W W' : World} (h : Ext W W') (B : Nat) : KeepsFrom B W W' := ⟨h.size, fun k o _ hk ho => (Below.block h k (Array.getElem?_eq_some_iff.1 hk).1).trans hk⟩
theorem keeps_belS {S : Nat → Prop} {W W' : World} (h : BelS S W W') (hS : ∀ k, S k → ∃ cs t m, W.heap[k]? = some (.cells cs t m)) (B : Nat) : KeepsFrom B W W' :=
  ⟨h.size, fun k o _ hk ho => h.heap hk fun hs => by obtain ⟨cs, t, m, hc⟩ := hS k hs; rw [hk] at hc; cases hc; cases ho⟩
/-- Whether two are not in a set, of which one is above the other one. -/
def clsH (h : Hs) (g : Nat → Bool) : Bool := (List.range h.ws.length).any fun a => (belH h a).any fun b => !g a && !g b
theorem clsH_yes {h : Hs} {g : Nat → Bool} {a b : Nat} (ha : a < h.ws.length) (hb : b ∈ belH h a) (h1 : g a = false) (h2 : g b = false) : clsH h g = true :=
  List.any_eq_true.2 ⟨a, List.mem_range.2 ha, List.any_eq_true.2 ⟨b, hb, by rw [h1, h2]; rfl⟩⟩
theorem clsH_no {h : Hs} {g : Nat → Bool} (hh : ∀ a, a < h.ws.length → ∀ b ∈ belH h a, (!g a && !g b) = false) : clsH h g = false := by
  unfold clsH
  rw [List.any_eq_false]
  intro a ha
  rw [Bool.not_eq_true, List.any_eq_false]
  intro b hb
  rw [Bool.not_eq_true]
  exact hh a (List.mem_range.1 ha) b hb
end Go.Proofs.YtjnobdcbbboeeaaGreat

namespace Go.Proofs.YtjnobdcbbboeeaaGreat
open Go Go.RowKit Go.Shelf
set_option linter.unusedVariables false
set_option linter.unusedSimpArgs false
attribute [local go_sem] Oper.semAt_some

set_option maxRecDepth 100000 in
set_option maxHeartbeats 4000000 in
theorem clashes_any (h : Hs) (D : Nat) (A : Option Addr) (c : Nat) (g : Nat → Bool) (w : World) (hn : h.ws.length ≤ 14) (hd : Dsk w D A c h (claG h)) :
    Calls Tryz.prog 64 #[.pointer (some ⟨D, 0, none⟩), .agg (bcell14 g).toArray] w fun e w' => e = .returned (.bool (clsH h g)) ∧ Ext w w' := by
  obtain ⟨N, hN⟩ : ∃ N : Nat, h.ws.length = N := ⟨_, rfl⟩
  have HN := hid hN
  have e0 := hd.ws
  rw [hN] at e0 hn
  have HD := hid hd
  have HYES := hid (fun (a b : Nat) (ha : a < h.ws.length) (hb : b ∈ belH h a) h1 h2 => clsH_yes (g := g) ha hb h1 h2)
  have HNO := hid (fun (hh : ∀ a, a < h.ws.length → ∀ b ∈ belH h a, (!g a && !g b) = false) => clsH_no hh)
  have HBL := hid (belH_lt h)
  obtain ⟨V, hV⟩ : ∃ V, clsH h g = V := ⟨_, rfl⟩
  rw [hV] at HYES HNO ⊢
  have hDl := hd.lt
  clear hN hd hV
  refine callsIn_wide (n := 9).1 ?_
  refine callsIn_of_wp_marks Tryz.func64 rfl trivial ?_ rfl
  simp only [Tryz.ntmps64, List.size_toArray, List.length_cons, List.length_nil, Nat.reduceAdd, Nat.reduceSub, Array.replicate_succ, Array.replicate_zero, List.push_toArray, List.append_toArray, List.nil_append, List.cons_append]
  have e0' : ∀ o o', ((w.alloc o).alloc o').cell? ⟨D, 2, none⟩ = some (.slice A N c) := fun o o' => (((Ext.refl w).alloc o).alloc o').cell e0
  gi_wp2_with fail
  clear e0'
  obtain ⟨W1, hW1⟩ : ∃ W1, (w.alloc (.cells (bcell14 g).toArray 90)).alloc (.cells #[.bool false] 4) = W1 := ⟨_, rfl⟩
  have hx1 : Ext w W1 := by rw [← hW1]; exact ((Ext.refl _).alloc _).alloc _
  have hg1 : BB W1 w.heap.size g := by
    rw [← hW1]
    exact (Below.heap_alloc _ _ _ (by simp)).trans (heap_alloc_new w _)
  have hr1 : W1.heap[w.heap.size + 1]? = some (.cells #[.bool false] 4 (0, 0)) := by
    rw [← hW1]
    have h := heap_alloc_new (w.alloc (.cells (bcell14 g).toArray 90)) (.cells #[.bool false] 4)
    simpa using h
  have hz1 : w.heap.size + 2 ≤ W1.heap.size := by rw [← hW1]; simp
  try rw [hW1]
  clear hW1
  clear e0
  have hmk0 := Marks.nil w.heap.size W1
  refine wpIn_loop (fun act wr => ∃ (n0 : Nat) (y5 y6 y14 y15 y16 y17 y18 y19 y20 y21 y22 y23 y24 y25 y26 y27 y28 y29 y30 : Value) (ds : List Deferred), act = { tmps := (List.toArray ((.pointer (some ⟨D, 0, none⟩)) :: (.agg (bcell14 g).toArray) :: (undef) :: (.pointer (some ⟨w.heap.size, 0, none⟩)) :: (.pointer (some ⟨w.heap.size + 1, 0, none⟩)) :: (y5) :: (y6) :: (.pointer (some ⟨D, 0, none⟩)) :: (.pointer (some ⟨D, 0, none⟩)) :: (.pointer (some ⟨D, 0, none⟩)) :: (.pointer (some ⟨D, 2, none⟩)) :: (.slice A N c) :: (.int .i64 (N : Int)) :: (.int .i64 (n0 : Int)) :: (y14) :: (y15) :: (y16) :: (y17) :: (y18) :: (y19) :: (y20) :: (y21) :: (y22) :: (y23) :: (y24) :: (y25) :: (y26) :: (y27) :: (y28) :: (y29) :: (y30) :: [])), defers := ds } ∧ n0 ≤ N ∧ Ext W1 wr ∧ Marks w.heap.size ds wr ∧ Hid (∀ a, a < n0 → ∀ b ∈ belH h a, (!g a && !g b) = false)) (fun act _ => N - (intOf (act.tmps.getD 13 undef)).toNat) ?h0 ?hr
  case h0 => exact ⟨0, _, _, _, _, _, _, _, _, _, _, _, _, _, _, _, _, _, _, _, _, rfl, Nat.zero_le _, Ext.refl _, hmk0, fun a ha => absurd ha (Nat.not_lt_zero _)⟩
  case hr =>
    rintro _ wr ⟨n0, y5, y6, y14, y15, y16, y17, y18, y19, y20, y21, y22, y23, y24, y25, y26, y27, y28, y29, y30, ds, rfl, h1, hxr, hmk, HPRE⟩
    dsimp only
    have hxw := hx1.trans hxr
    have hgr := hg1.ext hxr
    have hrr := (Below.block hxr _ (Array.getElem?_eq_some_iff.1 hr1).1).trans hr1
    by_cases hlt : n0 < N
    · have hlt' : (n0 : Int) < (N : Int) := by omega
      have hnh : n0 < h.ws.length := by rw [HN.out]; exact hlt
      have hn14 : (n0 : Int) < 14 := by omega
      gi_wp2_with fail
      obtain ⟨W5, hW5⟩ : ∃ W5, wr.alloc (.cells #[.int .i64 (n0 : Int)] 3) = W5 := ⟨_, rfl⟩
      have hx5 : Ext wr W5 := by rw [← hW5]; exact (Ext.refl _).alloc _
      have ka : W5.cell? ⟨wr.heap.size, 0, none⟩ = some (.int .i64 (n0 : Int)) := by rw [← hW5]; simp [go_sem]
      try rw [hW5]
      clear hW5
      have hz5 := hx5.size
      refine ⟨trivial, (callsIn_wide.2 (below_any D n0 _)).mono ?_⟩
      rintro e w6 ⟨rfl, rfl⟩
      obtain ⟨W6, hW6⟩ : ∃ W6, (W5.alloc (.cells #[.pointer (some ⟨D, 0, none⟩)] 73)).alloc (.cells #[.int .i64 (n0 : Int)] 3) = W6 := ⟨_, rfl⟩
      have hx6 : Ext W5 W6 := by rw [← hW6]; exact ((Ext.refl _).alloc _).alloc _
      have kd : W6.cell? ⟨W5.heap.size, 0, none⟩ = some (.pointer (some ⟨D, 0, none⟩)) := by rw [← hW6]; simp [go_sem]
      have kp : W6.cell? ⟨W5.heap.size + 1, 0, none⟩ = some (.int .i64 (n0 : Int)) := by rw [← hW6]; simp [go_sem]
      rw [hW6]
      clear hW6
      have hz6 := hx6.size
      have hr6 := hx5.trans hx6
      have fa := hx6.cell ka
      have hd6 := HD.out.ext (hxw.trans hr6)
      have hg6 := hgr.ext hr6
      have hrr6 := (Below.block hr6 _ (Array.getElem?_eq_some_iff.1 hrr).1).trans hrr
      have hzr := hxr.size
      clear ka
      gi_wp2
      refine wpIn_rangeFunc_ownH (F := Fence.wide) (n := 9) rfl (by omega) (gf := 90) (lb := #[.pointer (some ⟨W5.heap.size, 0, none⟩), .pointer (some ⟨W5.heap.size + 1, 0, none⟩)]) rfl trivial (enters_of Tryz.func90 (by kernel_rfl) rfl)
        (below_stops _ D W5.heap.size (W5.heap.size + 1) (fun k => k = w.heap.size + 1) h A c n0 W6 (by rw [HN.out]; exact hn) hnh (by omega) (by omega) (by omega) hd6 kd kp) KcS.trans kcS_b (Below.refl _ _) (fun _ => rfl)
        (fun pre W' => (∀ b ∈ pre.map (·.1), (!g n0 && !g b) = false) ∧ Ext W6 W')
        (fun cd pre W' => (cd = Code.ret ∧ V = true) ∧ BelS (fun k => k = w.heap.size + 1) W6 W' ∧ W'.heap[w.heap.size + 1]? = some (.cells #[.bool true] 4 (0, 0)))
        (OwnFrom.and (ownFrom_pure _ (fun pre : List (NP (belH h n0)) => ∀ b ∈ pre.map (·.1), (!g n0 && !g b) = false)) (own_ext (Nat.le_refl _)))
        (fun cd => OwnFrom.and (ownFrom_pure _ (fun pre : List (NP (belH h n0)) => cd = Code.ret ∧ V = true)) (OwnFrom.and (own_belS (Nat.le_refl _)) (own_cells _ _ _))) ⟨fun b hb => by (cases hb), Ext.refl _⟩
        (fun x a' W' => a' = { tmps := (List.toArray ((.pointer (some ⟨D, 0, none⟩)) :: (.agg (bcell14 g).toArray) :: (undef) :: (.pointer (some ⟨w.heap.size, 0, none⟩)) :: (.pointer (some ⟨w.heap.size + 1, 0, none⟩)) :: (.pointer (some ⟨wr.heap.size, 0, none⟩)) :: (.int .i64 (x.1 : Int)) :: (.pointer (some ⟨D, 0, none⟩)) :: (.pointer (some ⟨D, 0, none⟩)) :: (.pointer (some ⟨D, 0, none⟩)) :: (.pointer (some ⟨D, 2, none⟩)) :: (.slice A N c) :: (.int .i64 (N : Int)) :: (.int .i64 (n0 : Int)) :: (.bool true) :: (.int .i64 (n0 : Int)) :: (.pointer (some ⟨D, 0, none⟩)) :: (.int .i64 (n0 : Int)) :: (.func (.func 90) #[] #[.pointer (some ⟨W5.heap.size, 0, none⟩), .pointer (some ⟨W5.heap.size + 1, 0, none⟩)]) :: (.int .i64 (x.1 : Int)) :: (y20) :: (y21) :: (y22) :: (y23) :: (y24) :: (y25) :: (y26) :: (y27) :: (y28) :: (y29) :: (y30) :: [])), defers := [] })
        (fun x a' _ X Y row hs hg hr => hs)
        ?assign ?body ?done ?stop
      case assign =>
        rintro lv pre x W' K hi hK
        simp only [encNP] at *
        gi_wp2
        refine hK _ _ ⟨Nat.le_refl _, fun k o h1 hk ho => hk⟩ (KcS.refl _ _) hi ?_
        rfl
      case body =>
        rintro lv pre x a' W' hl ⟨r, hr⟩ ⟨i1, i2⟩ rfl hlt2
        obtain ⟨b, hb⟩ := x
        have hbN : b < h.ws.length := HBL.out n0 b hb
        have hb14 : (b : Int) < 14 := by have := HN.out; omega
        have j0 := i2.cell fa
        have hg7 := hg6.ext i2
        have hrr7 := (Below.block i2 _ (Array.getElem?_eq_some_iff.1 hrr6).1).trans hrr6
        have ca := hg7.cell (b := n0) (by omega)
        have cb := hg7.cell (b := b) (by omega)
        have re7 : W'.cell? ⟨w.heap.size + 1, 0, none⟩ = some (.bool false) := by rw [cell_of_row W' _ 0 _ _ _ hrr7]; rfl
        have fz : W'.frozen? ⟨w.heap.size + 1, 0, none⟩ = false := by simp [World.frozen?, hrr7]
        by_cases ga : g n0 = true
        · rw [ga] at ca
          gi_wp2
          exact ⟨KeepsFrom.refl _ _, KcS.refl _ _, fun y hy => by rw [ga]; rfl, i2⟩
        · have ga' : g n0 = false := by simpa using ga
          rw [ga'] at ca
          by_cases gb : g b = true
          · rw [gb] at cb
            have hall : ∀ y ∈ (pre ++ [(⟨b, hb⟩ : NP (belH h n0))]).map (·.1), (!g n0 && !g y) = false := fun y hy => by
              rw [List.map_append, List.mem_append] at hy
              rcases hy with hy | hy
              · exact i1 y hy
              · simp only [List.map_cons, List.map_nil, List.mem_singleton] at hy
                subst hy; rw [gb]; simp
            gi_wp2
            exact ⟨KeepsFrom.refl _ _, KcS.refl _ _, hall, i2⟩
          · have gb' : g b = false := by simpa using gb
            rw [gb'] at cb
            have hVt := HYES.out n0 b hnh hb ga' gb'
            have hset := cellset_bool hrr7 true
            have hbs : BelS (fun k => k = w.heap.size + 1) W' (W'.setCell ⟨w.heap.size + 1, 0, none⟩ (.bool true)) := (BelS.refl _ _).setCell _ _ rfl
            gi_wp2
            exact ⟨keeps_belS hbs (fun k hk => by subst hk; exact ⟨_, _, _, hrr7⟩) _, ⟨rfl, hVt⟩, (Ext.belS i2).trans hbs, hset⟩
      case done =>
        rintro D3 xs W3 hD3 hxs ⟨i1, i2⟩ hK3
        rw [show xs.map (·.1) = belH h n0 from hxs] at i1
        have hPRE2 : Hid (∀ a, a < n0 + 1 → ∀ b ∈ belH h a, (!g a && !g b) = false) := fun a ha b hb => by
          by_cases e : a = n0
          · subst e; exact i1 b hb
          · exact HPRE.out a (by omega) b hb
        have hlt3 := hmk.lt
        have hmk3 := (hmk.ext (hr6.trans i2)).cons hK3 (by have := hx1.size; omega) hlt3 (by omega)
        have hx3 := hxr.trans (hr6.trans i2)
        gi_wp2
        refine ⟨⟨n0 + 1, _, _, _, _, _, _, _, _, _, _, _, _, _, _, _, _, _, _, _, _, rfl, by omega, hx3, hmk3, hPRE2⟩, ?_⟩
        simp [intOf]; omega
      case stop =>
        rintro D3 cd pre W3 hD3 hpre ⟨⟨rfl, i1⟩, i2, i3⟩ hK3
        subst i1
        have hlt3 := hmk.lt
        have hr3 := (Ext.belS (S := fun k => k = w.heap.size + 1) hr6).trans i2
        have hmk3 := (hmk.belS hr3 (fun k x hk e => by subst hk; rw [hrr] at e; cases e)).cons hK3 (by have := hx1.size; omega) hlt3 (by omega)
        have hxx : Ext w W3 := ((Ext.belS hxw).trans hr3).ext fun k hk e => by omega
        gi_wp2
        refine leaves_marks (by simp) _ _ hmk3 fun W' hb hc => ?_
        exact ⟨_, results_bool rfl _ _ _ rfl (hc _ _ i3 (fun x e => by cases e)), rfl, Below.trans hxx hb⟩
    · have hnN : n0 = N := by omega
      subst hnN
      have hVf : V = false := HNO.out fun a ha b hb => HPRE.out a (by rw [HN.out] at ha; exact ha) b hb
      subst hVf
      have re7 : wr.cell? ⟨w.heap.size + 1, 0, none⟩ = some (.bool false) := by rw [cell_of_row wr _ 0 _ _ _ hrr]; rfl
      have fz : wr.frozen? ⟨w.heap.size + 1, 0, none⟩ = false := by simp [World.frozen?, hrr]
      have hset := cellset_bool hrr false
      have hbs : BelS (fun k => k = w.heap.size + 1) wr (wr.setCell ⟨w.heap.size + 1, 0, none⟩ (.bool false)) := (BelS.refl _ _).setCell _ _ rfl
      have hmk3 := hmk.belS hbs (fun k x hk e => by subst hk; rw [hrr] at e; cases e)
      have hxx : Ext w (wr.setCell ⟨w.heap.size + 1, 0, none⟩ (.bool false)) := ((Ext.belS hxw).trans hbs).ext fun k hk e => by omega
      gi_wp2
      refine leaves_marks (by simp) _ _ hmk3 fun W' hb hc => ?_
      exact ⟨_, results_bool rfl _ _ _ rfl (hc _ _ hset (fun x e => by cases e)), rfl, Below.trans hxx hb⟩
end Go.Proofs.YtjnobdcbbboeeaaGreat

namespace Go.Proofs.YtjnobdcbbboeeaaGreat
open Go Go.RowKit Go.Shelf
set_option linter.unusedVariables false
set_option linter.unusedSimpArgs false
attribute [local go_sem] Oper.semAt_some

theorem wpInW_scope {n : Nat} {P : Program} {c : Code} {Q : Exit → Act → World → Prop} {a : Act} {w : World} (h : c.wpIn Fence.wide n P (Exit.noGoto Q) a w) : (Code.scope c).wpIn Fence.wide n P Q a w :=
  wpIn_wide.2 (wp_scope_straight ((wpIn_wide (n := n)).1 h))
theorem claP_none {h : Hs} (hh : ∀ a, a < h.ws.length → belH h a = []) : claP h = [] := by
  unfold claP
  rw [List.flatMap_eq_nil_iff]
  intro a ha
  rw [hh a (List.mem_range.1 ha)]; rfl
theorem flat_first {β : Type} {f : Nat → List β} {n : Nat} {y : β} {t : List β} (hy : f n = y :: t) : ∀ (k s : Nat), s ≤ n → n < s + k → (∀ a, s ≤ a → a < n → f a = []) → ∃ r, (List.range' s k).flatMap f = y :: r
  | 0, s, h1, h2, _ => by omega
  | k + 1, s, h1, h2, hh => by
    rw [List.range'_succ, List.flatMap_cons]
    by_cases e : s = n
    · subst e; rw [hy]; exact ⟨_, rfl⟩
    · rw [hh s (Nat.le_refl _) (by omega), List.nil_append]
      exact flat_first hy k (s + 1) (by omega) (by omega) (fun a h3 h4 => hh a (by omega) h4)
theorem claP_some {h : Hs} {n x : Nat} {t : List Nat} (hn : n < h.ws.length) (hh : ∀ a, a < n → belH h a = []) (hx : belH h n = x :: t) : ∃ r, claP h = ((n : Int), (x : Int)) :: r := by
  unfold claP
  rw [List.range_eq_range']
  exact flat_first (f := fun a => (belH h a).map fun (b : Nat) => ((a : Int), (b : Int))) (y := ((n : Int), (x : Int))) (t := t.map fun (b : Nat) => ((n : Int), (b : Int))) (by show (belH h n).map _ = _; rw [hx]; rfl) h.ws.length 0 (Nat.zero_le _) (by omega) (fun a _ ha => by show (belH h a).map _ = _; rw [hh a ha]; rfl)
def claRes (p : Int × Int) (E : Int) : Value := .tuple #[.agg #[.int .i64 p.1, .int .i64 p.2], .int .i64 E]
set_option maxRecDepth 100000 in
set_option maxHeartbeats 4000000 in
theorem clash_any (v : Value) (h : Hs) (w : World) (hr : HsR w v h) (hs : h.sized) :
    Calls Tryz.prog 58 #[v] w fun e w' => e = .returned (claRes (claV h) (claE h)) ∧ Ext w w' := by
  obtain ⟨A, c, rfl, hrw, hcap⟩ := hr
  obtain ⟨T, hT⟩ : ∃ T, checkH h = T := ⟨_, rfl⟩
  obtain ⟨RES, hRES⟩ : ∃ RES, claRes (claV h) (claE h) = RES := ⟨_, rfl⟩
  rw [hRES]
  have HRES := hid hRES
  clear hRES
  obtain ⟨w1, hw1⟩ : ∃ w1, w.alloc (.cells #[.int .i64 h.mo, .int .i64 h.pk, .slice A h.ws.length c] 25) = w1 := ⟨_, rfl⟩
  obtain ⟨w2, hw2⟩ : ∃ w2, w1.alloc (.cells #[.int .i64 0, .int .i64 0] 43) = w2 := ⟨_, rfl⟩
  have hx1 : Ext w w1 := by rw [← hw1]; exact Ext.alloc (Ext.refl w) _
  have hx12 : Ext w1 w2 := by rw [← hw2]; exact Ext.alloc (Ext.refl w1) _
  have s1 : w1.heap.size = w.heap.size + 1 := by rw [← hw1]; simp
  have s2 : w2.heap.size = w.heap.size + 1 + 1 := by rw [← hw2]; simp [s1]
  have b1 : w2.heap[w.heap.size]? = some (.cells #[.int .i64 h.mo, .int .i64 h.pk, .slice A h.ws.length c] 25 (0, 0)) := (Below.block hx12 w.heap.size (by omega)).trans (by rw [← hw1]; exact heap_alloc_new w _)
  have b4 : w2.heap[w.heap.size + 1]? = some (.cells #[.int .i64 0, .int .i64 0] 43 (0, 0)) := by rw [← hw2, ← s1]; exact heap_alloc_new w1 _
  have hx2 := hx1.trans hx12
  have FH : Hid (∀ w', Ext w2 w' → w'.cell? ⟨w.heap.size, 0, none⟩ = some (.int .i64 h.mo) ∧ w'.cell? ⟨w.heap.size, 1, none⟩ = some (.int .i64 h.pk) ∧ w'.cell? ⟨w.heap.size, 2, none⟩ = some (.slice A h.ws.length c)) := fun w' hx =>
    ⟨hx.cell (by rw [cell_of_row w2 w.heap.size 0 _ _ _ b1]; rfl), hx.cell (by rw [cell_of_row w2 w.heap.size 1 _ _ _ b1]; rfl), hx.cell (by rw [cell_of_row w2 w.heap.size 2 _ _ _ b1]; rfl)⟩
  have F4 : Hid (∀ w', Ext w2 w' → w'.heap[w.heap.size + 1]? = some (.cells #[.int .i64 0, .int .i64 0] 43 (0, 0))) := fun w' hx => (Below.block hx _ (by omega)).trans b4
  have KC := opened_any (hval h A c) h w2 ⟨A, c, rfl, Rows.ext hrw hx2, hcap⟩ hs
  unfold hval OpenPost at KC
  rw [hT] at KC
  have KC := hid KC
  have HT := hid hT
  have HW1 := hid hw1
  have HW2 := hid hw2
  have HS1 := hid s1
  have HS2 : Hid (w.heap.size + 2 ≤ w2.heap.size) := by unfold Hid; omega
  obtain ⟨c0, c1, c2⟩ := FH.out w2 (Ext.refl _)
  clear hw1 hw2 hT hrw b1 b4 hs hx12 s1 s2 hx1
  unfold hval
  refine callsIn_wide (n := 9).1 ?_
  refine callsIn_of_wp_marks Tryz.func58 rfl trivial ?_ rfl
  simp only [Tryz.ntmps58, List.size_toArray, List.length_cons, List.length_nil, Nat.reduceAdd, Nat.reduceSub, Array.replicate_succ, Array.replicate_zero, List.push_toArray, List.append_toArray, List.nil_append, List.cons_append]
  gi_wp2_with fail
  rw [HW1.out, HW2.out]
  try rw [HS1.out]
  clear HW1 HW2
  refine wpInW_scope ?_
  gi_wp2_with fail
  clear c0 c1
  refine ⟨trivial, (callsIn_wide.2 KC.out).mono ?_⟩
  rintro e w3 ⟨r, rfl, hx3, hk1, hk2⟩
  clear KC
  obtain ⟨z0, z1, zf⟩ := rat_cells (F4.out w3 hx3)
  by_cases hT0 : T = 0
  · have hk := hk1 hT0
    subst hT0
    obtain ⟨D, AD, cd, rfl, hd, hwd, hcd⟩ := hk
    have hok := checkH_ok HT.out
    have hn := hok.len
    obtain ⟨N, hN⟩ : ∃ N : Nat, h.ws.length = N := ⟨_, rfl⟩
    have HN := hid hN
    rw [hN] at hn
    have y2 := hx3.cell c2
    have HD := hid hd
    have hn1 : (N : Int) ≤ 14 := by omega
    rw [hN] at y2
    have y2o : ∀ o o', ((w3.alloc o).alloc o').cell? ⟨w.heap.size, 2, none⟩ = some (.slice A N c) := fun o o' => (((Ext.refl w3).alloc o).alloc o').cell y2
    clear hk1 hk2 hN hok hd
    gi_wp2_with fail
    obtain ⟨W1, hW1⟩ : ∃ W1, (w3.alloc (.cells #[.int .i64 (-1), .int .i64 (-1)] 43)).alloc (.cells #[.int .i64 (-1), .int .i64 (-1)] 43) = W1 := ⟨_, rfl⟩
    have hx31 : Ext w3 W1 := by rw [← hW1]; exact ((Ext.refl _).alloc _).alloc _
    have hnb : W1.heap[w3.heap.size]? = some (.cells #[.int .i64 (-1), .int .i64 (-1)] 43 (0, 0)) := by
      rw [← hW1]
      exact (Below.heap_alloc _ _ _ (by simp)).trans (heap_alloc_new w3 _)
    have hob : W1.heap[w3.heap.size + 1]? = some (.cells #[.int .i64 (-1), .int .i64 (-1)] 43 (0, 0)) := by
      rw [← hW1]
      have h := heap_alloc_new (w3.alloc (.cells #[.int .i64 (-1), .int .i64 (-1)] 43)) (.cells #[.int .i64 (-1), .int .i64 (-1)] 43)
      simpa using h
    have hz1 : w3.heap.size + 2 ≤ W1.heap.size := by rw [← hW1]; simp
    have hD1 := HD.out.ext hx31
    have hrb := (Below.block hx31 _ (by have := hx3.size; have := HS2.out; omega)).trans (F4.out w3 hx3)
    have hDl := HD.out.lt
    have y21 := hx31.cell y2
    have hxw1 : Ext w W1 := (hx2.trans hx3).trans hx31
    have hs3 := hx3.size
    have hs2 := HS2.out
    try rw [hW1]
    clear hW1 y2o y2 z0 z1 zf
    refine wpIn_label ?_
    gi_wp2_with fail
    have hmk0 := Marks.nil w.heap.size W1
    have hz0 := hx2.size
    refine wpIn_loop (fun act wr => ∃ (n0 : Nat) (y8 y9 y25 y26 y27 y28 y29 y30 y31 y32 y33 y34 : Value) (ds : List Deferred), act = { tmps := (List.toArray ((.agg #[.int .i64 h.mo, .int .i64 h.pk, .slice A h.ws.length c]) :: (.pointer (some ⟨w.heap.size, 0, none⟩)) :: (.pointer (some ⟨w.heap.size + 1, 0, none⟩)) :: (.int .i64 0) :: (.pointer (some ⟨D, 0, none⟩)) :: (.int .i64 0) :: (.pointer (some ⟨w3.heap.size, 0, none⟩)) :: (.pointer (some ⟨w3.heap.size + 1, 0, none⟩)) :: (y8) :: (y9) :: (.tuple #[.pointer (some ⟨D, 0, none⟩), .int .i64 0]) :: (.agg #[.int .i64 h.mo, .int .i64 h.pk, .slice A h.ws.length c]) :: (.tuple #[.pointer (some ⟨D, 0, none⟩), .int .i64 0]) :: (.pointer (some ⟨D, 0, none⟩)) :: (.int .i64 0) :: (.int .i64 0) :: (.bool false) :: (undef) :: (undef) :: (.agg #[.int .i64 (-1), .int .i64 (-1)]) :: (.agg #[.int .i64 (-1), .int .i64 (-1)]) :: (.pointer (some ⟨w.heap.size, 2, none⟩)) :: (.slice A N c) :: (.int .i64 (N : Int)) :: (.int .i64 (n0 : Int)) :: (y25) :: (y26) :: (y27) :: (y28) :: (y29) :: (y30) :: (y31) :: (y32) :: (y33) :: (y34) :: (undef) :: (undef) :: (undef) :: (undef) :: (undef) :: [])), defers := ds } ∧ n0 ≤ N ∧ Ext W1 wr ∧ Marks w.heap.size ds wr ∧ Hid (∀ a, a < n0 → belH h a = [])) (fun act _ => N - (intOf (act.tmps.getD 24 undef)).toNat) ?h0 ?hr
    case h0 => exact ⟨0, _, _, _, _, _, _, _, _, _, _, _, _, _, rfl, Nat.zero_le _, Ext.refl _, hmk0, fun a ha => absurd ha (Nat.not_lt_zero _)⟩
    case hr =>
      rintro _ wr ⟨n0, y8, y9, y25, y26, y27, y28, y29, y30, y31, y32, y33, y34, ds, rfl, h1, hxr, hmk, HPRE⟩
      dsimp only
      have hzr := hxr.size
      have hxw := hxw1.trans hxr
      have hor := (Below.block hxr _ (by omega)).trans hob
      have hnr := (Below.block hxr _ (by omega)).trans hnb
      have hrr := (Below.block hxr _ (by omega)).trans hrb
      by_cases hlt : n0 < N
      · have hlt' : (n0 : Int) < (N : Int) := by omega
        have hnh : n0 < h.ws.length := by rw [HN.out]; exact hlt
        have hn14 : (n0 : Int) < 14 := by omega
        gi_wp2_with fail
        obtain ⟨W5, hW5⟩ : ∃ W5, wr.alloc (.cells #[.int .i64 (n0 : Int)] 3) = W5 := ⟨_, rfl⟩
        have hx5 : Ext wr W5 := by rw [← hW5]; exact (Ext.refl _).alloc _
        have ka : W5.cell? ⟨wr.heap.size, 0, none⟩ = some (.int .i64 (n0 : Int)) := by rw [← hW5]; simp [go_sem]
        try rw [hW5]
        clear hW5
        have hz5 := hx5.size
        refine ⟨trivial, (callsIn_wide.2 (below_any D n0 _)).mono ?_⟩
        rintro e w6 ⟨rfl, rfl⟩
        obtain ⟨W6, hW6⟩ : ∃ W6, (W5.alloc (.cells #[.pointer (some ⟨D, 0, none⟩)] 73)).alloc (.cells #[.int .i64 (n0 : Int)] 3) = W6 := ⟨_, rfl⟩
        have hx6 : Ext W5 W6 := by rw [← hW6]; exact ((Ext.refl _).alloc _).alloc _
        have kd : W6.cell? ⟨W5.heap.size, 0, none⟩ = some (.pointer (some ⟨D, 0, none⟩)) := by rw [← hW6]; simp [go_sem]
        have kp : W6.cell? ⟨W5.heap.size + 1, 0, none⟩ = some (.int .i64 (n0 : Int)) := by rw [← hW6]; simp [go_sem]
        rw [hW6]
        clear hW6
        have hz6 := hx6.size
        have hr6 := hx5.trans hx6
        have fa := hx6.cell ka
        have hd6 := hD1.ext (hxr.trans hr6)
        have hor6 := (Below.block hr6 _ (by omega)).trans hor
        have hnr6 := (Below.block hr6 _ (by omega)).trans hnr
        have hrr6 := (Below.block hr6 _ (by omega)).trans hrr
        clear ka
        gi_wp2
        refine wpIn_rangeFunc_ownH (F := Fence.wide) (n := 9) rfl (by omega) (gf := 90) (lb := #[.pointer (some ⟨W5.heap.size, 0, none⟩), .pointer (some ⟨W5.heap.size + 1, 0, none⟩)]) rfl trivial (enters_of Tryz.func90 (by kernel_rfl) rfl)
          (below_stops _ D W5.heap.size (W5.heap.size + 1) (fun k => k = w3.heap.size + 1) h AD cd n0 W6 (by rw [HN.out]; exact hn) hnh (by omega) (by omega) (by omega) hd6 kd kp) KcS.trans kcS_b (Below.refl _ _) (fun _ => rfl)
          (fun pre W' => pre.length = 0 ∧ Ext W6 W')
          (fun cd pre W' => (cd = Code.exit 0 ∧ pre.length = 1) ∧ BelS (fun k => k = w3.heap.size + 1) W6 W' ∧ W'.heap[w3.heap.size + 1]? = some (.cells #[.int .i64 (n0 : Int), .int .i64 (((pre.map (·.1)).headD 0 : Nat) : Int)] 43 (0, 0)))
          (OwnFrom.and (ownFrom_pure _ (fun pre : List (NP (belH h n0)) => pre.length = 0)) (own_ext (Nat.le_refl _)))
          (fun cd => OwnFrom.and (ownFrom_pure _ (fun pre : List (NP (belH h n0)) => cd = Code.exit 0 ∧ pre.length = 1)) (OwnFrom.and (own_belS (Nat.le_refl _)) (fun s X Y row hs hg hr => cells_own hs hg fun r e => (hr r e).2))) ⟨rfl, Ext.refl _⟩
          (fun x a' W' => a' = { tmps := (List.toArray ((.agg #[.int .i64 h.mo, .int .i64 h.pk, .slice A h.ws.length c]) :: (.pointer (some ⟨w.heap.size, 0, none⟩)) :: (.pointer (some ⟨w.heap.size + 1, 0, none⟩)) :: (.int .i64 0) :: (.pointer (some ⟨D, 0, none⟩)) :: (.int .i64 0) :: (.pointer (some ⟨w3.heap.size, 0, none⟩)) :: (.pointer (some ⟨w3.heap.size + 1, 0, none⟩)) :: (.pointer (some ⟨wr.heap.size, 0, none⟩)) :: (.int .i64 (x.1 : Int)) :: (.tuple #[.pointer (some ⟨D, 0, none⟩), .int .i64 0]) :: (.agg #[.int .i64 h.mo, .int .i64 h.pk, .slice A h.ws.length c]) :: (.tuple #[.pointer (some ⟨D, 0, none⟩), .int .i64 0]) :: (.pointer (some ⟨D, 0, none⟩)) :: (.int .i64 0) :: (.int .i64 0) :: (.bool false) :: (undef) :: (undef) :: (.agg #[.int .i64 (-1), .int .i64 (-1)]) :: (.agg #[.int .i64 (-1), .int .i64 (-1)]) :: (.pointer (some ⟨w.heap.size, 2, none⟩)) :: (.slice A N c) :: (.int .i64 (N : Int)) :: (.int .i64 (n0 : Int)) :: (.bool true) :: (.int .i64 (n0 : Int)) :: (.pointer (some ⟨D, 0, none⟩)) :: (.int .i64 (n0 : Int)) :: (.func (.func 90) #[] #[.pointer (some ⟨W5.heap.size, 0, none⟩), .pointer (some ⟨W5.heap.size + 1, 0, none⟩)]) :: (.int .i64 (x.1 : Int)) :: (y31) :: (y32) :: (y33) :: (y34) :: (undef) :: (undef) :: (undef) :: (undef) :: (undef) :: [])), defers := [] })
          (fun x a' _ X Y row hs hg hr => hs)
          ?assign ?body ?done ?stop
        case assign =>
          rintro lv pre x W' K hi hK
          simp only [encNP] at *
          gi_wp2
          refine hK _ _ ⟨Nat.le_refl _, fun k o h1 hk ho => hk⟩ (KcS.refl _ _) hi ?_
          rfl
        case body =>
          rintro lv pre x a' W' hl ⟨r, hr⟩ ⟨i1, i2⟩ rfl hlt2
          obtain ⟨b, hb⟩ := x
          obtain rfl : pre = [] := List.length_eq_zero_iff.1 i1
          have j0 := i2.cell fa
          have ho7 := (Below.block i2 _ (by omega)).trans hor6
          obtain ⟨o0, o1, of⟩ := rat_cells ho7
          have of0 := of 0
          have of1 := of 1
          have hput := rat_put ho7 (.int .i64 (n0 : Int)) (.int .i64 (b : Int))
          have hbs : BelS (fun k => k = w3.heap.size + 1) W' ((W'.setCell ⟨w3.heap.size + 1, 0, none⟩ (.int .i64 (n0 : Int))).setCell ⟨w3.heap.size + 1, 1, none⟩ (.int .i64 (b : Int))) := ((BelS.refl (fun k => k = w3.heap.size + 1) W').setCell _ _ rfl).setCell _ _ rfl
          clear of
          gi_wp2
          exact ⟨keeps_belS hbs (fun k hk => by subst hk; exact ⟨_, _, _, ho7⟩) _, ⟨rfl, rfl⟩, (Ext.belS i2).trans hbs, hput⟩
        case done =>
          rintro D3 xs W3 hD3 hxs ⟨i1, i2⟩ hK3
          have hbe : belH h n0 = [] := by
            rw [← show xs.map (·.1) = belH h n0 from hxs, List.length_eq_zero_iff.1 i1]; rfl
          have hPRE2 : Hid (∀ a, a < n0 + 1 → belH h a = []) := fun a ha => by
            by_cases e : a = n0
            · subst e; exact hbe
            · exact HPRE.out a (by omega)
          have hlt3 := hmk.lt
          have hmk3 := (hmk.ext (hr6.trans i2)).cons hK3 (by omega) hlt3 (by omega)
          have hx3 := hxr.trans (hr6.trans i2)
          clear hbe
          gi_wp2
          refine ⟨⟨n0 + 1, _, _, _, _, _, _, _, _, _, _, _, _, _, rfl, by omega, hx3, hmk3, hPRE2⟩, ?_⟩
          simp [intOf]; omega
        case stop =>
          rintro D3 cd pre W3 hD3 hpre ⟨⟨rfl, i1⟩, i2, i3⟩ hK3
          obtain ⟨x, hx⟩ := List.length_eq_one_iff.1 i1
          rw [hx] at hpre i3
          obtain ⟨b, hb⟩ := x
          obtain ⟨t, ht⟩ := hpre
          have hE : Hid (claRes ((n0 : Int), (b : Int)) 0 = RES) := by
            unfold Hid
            obtain ⟨r, hr⟩ := claP_some hnh HPRE.out ht.symm
            rw [← HRES.out]
            unfold claV claE
            rw [HT.out, if_neg (by decide), if_neg (by decide), hr]
          have hlt3 := hmk.lt
          have hr3 := (Ext.belS (S := fun k => k = w3.heap.size + 1) hr6).trans i2
          have hmk3 := (hmk.belS hr3 (fun k x hk e => by subst hk; rw [hor] at e; cases e)).cons hK3 (by omega) hlt3 (by omega)
          have hn3 := i2.heap hnr6 (by omega)
          have hres3 := i2.heap hrr6 (by omega)
          obtain ⟨o0, o1, -⟩ := rat_cells i3
          obtain ⟨n0_, n1_, -⟩ := rat_cells hn3
          obtain ⟨rc0, rc1, rf⟩ := rat_cells hres3
          have rf0 := rf 0
          have rf1 := rf 1
          have hput := rat_put hres3 (.int .i64 (n0 : Int)) (.int .i64 (b : Int))
          have hbs : BelS (fun k => k = w.heap.size + 1) W3 ((W3.setCell ⟨w.heap.size + 1, 0, none⟩ (.int .i64 (n0 : Int))).setCell ⟨w.heap.size + 1, 1, none⟩ (.int .i64 (b : Int))) := ((BelS.refl (fun k => k = w.heap.size + 1) W3).setCell _ _ rfl).setCell _ _ rfl
          have hmk4 := hmk3.belS hbs (fun k x hk e => by subst hk; rw [hres3] at e; cases e)
          have hxx : Ext w ((W3.setCell ⟨w.heap.size + 1, 0, none⟩ (.int .i64 (n0 : Int))).setCell ⟨w.heap.size + 1, 1, none⟩ (.int .i64 (b : Int))) :=
            (((Ext.belS (S := fun k => w.heap.size ≤ k) hxw).trans (hr3.mono fun k _ hk => by omega)).trans (hbs.mono fun k _ hk => by omega)).ext fun k hk e => by omega
          clear rf
          gi_wp2
          refine leaves_marks (by simp) _ _ hmk4 fun W' hb hc => ?_
          obtain ⟨k0, k1, -⟩ := rat_cells (hc _ _ hput (fun x e => by cases e))
          refine ⟨claRes ((n0 : Int), (b : Int)) 0, ?_, congrArg Ending.returned hE.out, Below.trans hxx hb⟩
          simp [results, Tryz.results58, go_sem, k0, k1, claRes]
      · have hnN : n0 = N := by omega
        subst hnN
        have hE : Hid (claRes (0, 0) 6 = RES) := by
          unfold Hid
          rw [← HRES.out]
          unfold claV claE
          rw [HT.out, if_neg (by decide), if_neg (by decide), claP_none (fun a ha => HPRE.out a (by rw [HN.out] at ha; exact ha))]
        obtain ⟨o0, o1, -⟩ := rat_cells hor
        obtain ⟨n0_, n1_, -⟩ := rat_cells hnr
        obtain ⟨rc0, rc1, rf⟩ := rat_cells hrr
        have rf0 := rf 0
        have rf1 := rf 1
        have hput := rat_put hrr (.int .i64 0) (.int .i64 0)
        have hbs : BelS (fun k => k = w.heap.size + 1) wr ((wr.setCell ⟨w.heap.size + 1, 0, none⟩ (.int .i64 0)).setCell ⟨w.heap.size + 1, 1, none⟩ (.int .i64 0)) := ((BelS.refl (fun k => k = w.heap.size + 1) wr).setCell _ _ rfl).setCell _ _ rfl
        have hmk4 := hmk.belS hbs (fun k x hk e => by subst hk; rw [hrr] at e; cases e)
        have hxx : Ext w ((wr.setCell ⟨w.heap.size + 1, 0, none⟩ (.int .i64 0)).setCell ⟨w.heap.size + 1, 1, none⟩ (.int .i64 0)) :=
          ((Ext.belS (S := fun k => k = w.heap.size + 1) hxw).trans hbs).ext fun k hk e => by omega
        clear rf
        gi_wp2
        refine leaves_marks (by simp) _ _ hmk4 fun W' hb hc => ?_
        obtain ⟨k0, k1, -⟩ := rat_cells (hc _ _ hput (fun x e => by cases e))
        refine ⟨claRes (0, 0) 6, ?_, congrArg Ending.returned hE.out, Below.trans hxx hb⟩
        simp [results, Tryz.results58, go_sem, k0, k1, claRes]
  · have hE : Hid (claRes (claV h) (claE h) = claRes (0, 0) T) := by
      unfold Hid claV claE
      rw [HT.out, if_pos hT0, if_pos hT0]
    obtain rfl := hk2 hT0
    have zf0 := zf 0
    have zf1 := zf 1
    have zs := rat_put (F4.out w3 hx3) (.int .i64 0) (.int .i64 0)
    clear hk1 hk2 zf
    gi_wp2
    obtain ⟨k0, k1, -⟩ := rat_cells zs
    refine ⟨claRes (0, 0) T, ?_, congrArg Ending.returned (HRES.out.symm.trans hE.out).symm, ?_⟩
    · simp [results, Tryz.results58, go_sem, k0, k1, claRes]
    · exact ((Ext.belS (S := fun k => k = w.heap.size + 1) (hx2.trans hx3)).trans (((BelS.refl (fun k => k = w.heap.size + 1) w3).setCell _ _ rfl).setCell _ _ rfl)).ext fun k hk e => by omega
end Go.Proofs.YtjnobdcbbboeeaaGreat
