/- The walks of fog's heard, next and its iterator, all, carted, agrees. Printed by my gen_fheard.py. -/
import Derived.Test.YtlonpgbapiemcaaGreatFOpen
import Derived.Test.YtlonpgbapiemcaaGreatG2
namespace Go.Proofs.YtlonpgbapiemcaaGreat
open Go Go.RowKit Go.Shelf
set_option linter.unusedVariables false
set_option linter.unusedSimpArgs false
attribute [local go_sem] Oper.semAt_some

theorem abides_ext {β : Type} {B : Nat} {J : β → World → Prop} (h : AbidesFrom B J) {s : β} {W W' : World} (hs : J s W) (he : Ext W W') : J s W' :=
  h s W W' none hs (by obtain ⟨h1, h2, h3, h4, h5⟩ := he; exact ⟨h1, h2, h3, h4, fun i hi _ => h5 i hi⟩) (fun _ e => by cases e)
theorem mem_of_eq {α : Type} {a : α} {l m : List α} (h : l = m) (ha : a ∈ l) : a ∈ m := h ▸ ha
theorem len_of_eq {α : Type} {l m : List α} (h : l = m) {k : Nat} (ha : k < l.length) : k < m.length := h ▸ ha

set_option maxRecDepth 100000 in
set_option maxHeartbeats 1000000 in
theorem heard_any (D : Nat) (s : Ads) (f : Fg) (g : Mat) (b : Bl) (p : Nat) (w : World) (hd : Dk w D s f g) (hb : 0 ≤ b.pl ∧ b.pl < 8) (hp : p < 8) :
    Calls Tryz.prog 46 #[.pointer (some ⟨D, 0, none⟩), b.val, .int .i64 (p : Int)] w fun e w' => e = .returned (.bool (heardM g b p)) ∧ Ext w w' := by
  obtain ⟨bm, bp, bl⟩ := b
  simp only at hb
  obtain ⟨q, rfl⟩ : ∃ q : Nat, bp = q := ⟨bp.toNat, by omega⟩
  have hq : q < 8 := by omega
  have HF : Hid (decide (g q p ≤ bl) = heardM g ⟨bm, (q : Int), bl⟩ p) := by unfold Hid heardM; simp
  generalize heardM g ⟨bm, (q : Int), bl⟩ p = F at HF ⊢
  have c0 : ∀ o, (w.alloc o).cell? ⟨D, 5 + q * 8 + p, none⟩ = some (.int .i64 (g q p)) := fun o => (hd.ext (Ext.alloc (Ext.refl w) o)).at_ hq hp
  have hq' : (q : Int) < 8 := by omega
  have hp' : (p : Int) < 8 := by omega
  unfold Bl.val
  go_enter Tryz.func46, Tryz.ntmps46
  go_wp2
  go_quiet (fail)
  go_wp2
  go_ret
  exact ⟨ret_of (bool_of HF.out), Ext.drewN (Ext.alloc (Ext.refl w) _) _⟩

theorem next_any (D p : Nat) (w : World) :
    Calls Tryz.prog 190 #[.pointer (some ⟨D, 0, none⟩), .int .i64 (p : Int)] w fun e w' => e = .returned (.func (.func 235) #[] #[.pointer (some ⟨w.heap.size, 0, none⟩), .pointer (some ⟨w.heap.size + 1, 0, none⟩)]) ∧
      w' = (w.alloc (.cells #[.pointer (some ⟨D, 0, none⟩)] 101)).alloc (.cells #[.int .i64 (p : Int)] 3) := by
  go_enter Tryz.func190, Tryz.ntmps190
  go_wp2
  go_ret
  exact ⟨rfl, rfl⟩

/-- A yield's argument: one of the places. -/
abbrev NP (L : List Nat) := { x : Nat // x ∈ L }
def encNP {L : List Nat} (x : NP L) : Array Value := #[.int .i64 (x.1 : Int)]
theorem nxt_drop (g : Mat) (P p k : Nat) (hk : k < P) : (List.range' k (P - k)).filter (fun q => decide (g p q ≤ 1)) = (if g p k ≤ 1 then [k] else []) ++ (List.range' (k + 1) (P - (k + 1))).filter (fun q => decide (g p q ≤ 1)) := by
  rw [show P - k = (P - (k + 1)) + 1 by omega, List.range'_succ, List.filter_cons]
  by_cases h : g p k ≤ 1 <;> simp [h]
theorem nxt_start (g : Mat) (P p : Nat) : (List.range' 0 (P - 0)).filter (fun q => decide (g p q ≤ 1)) = nxt g P p := by
  unfold nxt; rw [List.range_eq_range']; rfl

set_option maxRecDepth 100000 in
set_option maxHeartbeats 4000000 in
theorem next1_in (n l D Bd Bp X : Nat) (f : Fg) (g : Mat) (p : Nat) (L : List Nat) (hL : nxt g f.pl.toNat p = L) (J Jx : List (NP L) → World → Prop)
    (hpl : 0 ≤ f.pl ∧ f.pl ≤ 8) (hp : p < 8) (hD : D ≠ X) (hBd : Bd ≠ X) (hBp : Bp ≠ X)
    (hY : ∀ pre x W, J pre W → pre.length < L.length → YieldAt Fence.wide (n - 1) Tryz.prog l (encNP x) W fun e W' =>
      (e = .returned (.bool true) ∧ J (pre ++ [x]) W' ∧ Cel X W W') ∨ (e = .returned (.bool false) ∧ Jx (pre ++ [x]) W'))
    (W : World) (hJ : AbidesFrom W.heap.size J)
    (s : Ads) (hd : ∀ (i : Nat) (u : Value), (dkcells s f g)[i]? = some u → W.cell? ⟨D, i, none⟩ = some u) (kd : W.cell? ⟨Bd, 0, none⟩ = some (.pointer (some ⟨D, 0, none⟩))) (kp : W.cell? ⟨Bp, 0, none⟩ = some (.int .i64 (p : Int))) (h0 : J [] W) :
    CallsIn Fence.wide n Tryz.prog 235 #[.func (.yield l) #[] #[], .pointer (some ⟨Bd, 0, none⟩), .pointer (some ⟨Bp, 0, none⟩)] W fun e W' => (∃ v, e = .returned v) ∧
      ((∃ xs, xs.map (·.1) = L ∧ J xs W') ∨ (∃ pre, True ∧ Jx pre W')) := by
  have HL : Hid ((List.range' 0 (f.pl.toNat - 0)).filter (fun q => decide (g p q ≤ 1)) = L) := by rw [← hL]; exact nxt_start _ _ _
  have HY := hid hY
  have HJ := hid hJ
  clear hY hJ
  obtain ⟨P, hP⟩ : ∃ P : Nat, f.pl.toNat = P := ⟨_, rfl⟩
  have hpl2 : f.pl = (P : Int) := by omega
  have hP8 : P ≤ 8 := by omega
  rw [hP] at HL
  have HD := hid hd
  have e0 := hd 0 _ rfl
  rw [hpl2] at e0
  clear hL hpl2 hP hd hpl
  refine callsIn_of_wp Tryz.func235 rfl trivial ?_ rfl
  simp only [Tryz.ntmps235, List.size_toArray, List.length_cons, List.length_nil, Nat.reduceAdd, Nat.reduceSub, Array.replicate_succ, Array.replicate_zero, List.push_toArray, List.append_toArray, List.nil_append, List.cons_append]
  gi_wp2
  gi_loopw [11] (fun i wr => ∃ (kk : Nat) (pre : List (NP L)), kk ≤ P ∧ i = .int .i64 kk ∧ J pre wr ∧ Hid (pre.map (·.1) ++ (List.range' kk (P - kk)).filter (fun q => decide (g p q ≤ 1)) = L) ∧ Cel X W wr)
    (fun i _ => P - (intOf i).toNat)
  case atStart => exact ⟨0, [], Nat.zero_le _, rfl, h0, by simpa using HL, Cel.refl _ _⟩
  case round =>
    obtain ⟨kk, pre, h1, rfl, hJ1, HP, hkr⟩ := hrel
    by_cases hlt : kk < P
    · have hlt' : (kk : Int) < (P : Int) := by omega
      have hk8 : (kk : Int) < 8 := by omega
      have hp8 : (p : Int) < 8 := by omega
      have q0 := hkr.cell kd hBd
      have q1 := hkr.cell kp hBp
      have q2 : wr.cell? ⟨D, 5 + p * 8 + kk, none⟩ = some (.int .i64 (g p kk)) := hkr.cell (HD.out (5 + p * 8 + kk) _ (by
        rw [show 5 + p * 8 + kk = (p * 8 + kk) + 5 by omega]
        simp [dkcells, gl_get g p kk hp (by omega)])) hD
      have FX : Hid (∀ w', Ext wr w' → w'.cell? ⟨Bd, 0, none⟩ = some (.pointer (some ⟨D, 0, none⟩)) ∧ w'.cell? ⟨Bp, 0, none⟩ = some (.int .i64 (p : Int)) ∧ w'.cell? ⟨D, 5 + p * 8 + kk, none⟩ = some (.int .i64 (g p kk))) := fun w' h => ⟨h.cell q0, h.cell q1, h.cell q2⟩
      have HN := hid (nxt_drop g P p kk hlt)
      clear q0 q1 q2
      by_cases hg : g p kk ≤ 1
      · have HQ : Hid (decide (g p kk ≤ 1) = true) := by simpa [Hid] using hg
        have HN2 : Hid ((List.range' kk (P - kk)).filter (fun q => decide (g p q ≤ 1)) = kk :: (List.range' (kk + 1) (P - (kk + 1))).filter (fun q => decide (g p q ≤ 1))) := by unfold Hid; rw [HN.out, if_pos hg]; rfl
        have hmem : kk ∈ L := mem_of_eq HP.out (by rw [HN2.out]; simp)
        have hlen : pre.length < L.length := len_of_eq HP.out (by rw [HN2.out]; simp)
        clear hg
        gi_wp2
        refine wpW_region_shut_tail Ext (fun w' => Ext wr w') (fun _ => none) 12 (by kernel_rfl) (by kernel_rfl) (fun _ _ h k => h.trans k) (fun i R h => by cases h) (Ext.drew (Ext.refl wr)) ?_
        refine wM_val ?ub0 rfl rfl Ext.refl (fun w' hD => ?hb0) (fun phb0 => ?nb0)
        case hb0 =>
          obtain ⟨d0, d1, d2⟩ := FX.out w' hD.1
          go_simp; rfl
        simp only [Act.put, List.setIfInBounds_toArray, List.set_cons_succ, List.set_cons_zero, Nat.reduceAdd]
        refine wM_val ?ub1 rfl rfl Ext.refl (fun w' hD => ?hb1) (fun phb1 => ?nb1)
        case hb1 =>
          obtain ⟨d0, d1, d2⟩ := FX.out w' hD.1
          go_simp; rfl
        simp only [Act.put, List.setIfInBounds_toArray, List.set_cons_succ, List.set_cons_zero, Nat.reduceAdd]
        refine wM_val ?ub2 rfl rfl Ext.refl (fun w' hD => ?hb2) (fun phb2 => ?nb2)
        case hb2 =>
          obtain ⟨d0, d1, d2⟩ := FX.out w' hD.1
          go_simp; rfl
        simp only [Act.put, List.setIfInBounds_toArray, List.set_cons_succ, List.set_cons_zero, Nat.reduceAdd]
        refine wM_val ?ub3 rfl rfl Ext.refl (fun w' hD => ?hb3) (fun phb3 => ?nb3)
        case hb3 =>
          obtain ⟨d0, d1, d2⟩ := FX.out w' hD.1
          go_simp; rfl
        simp only [Act.put, List.setIfInBounds_toArray, List.set_cons_succ, List.set_cons_zero, Nat.reduceAdd]
        refine wM_val ?ub4 rfl rfl Ext.refl (fun w' hD => ?hb4) (fun phb4 => ?nb4)
        case hb4 =>
          obtain ⟨d0, d1, d2⟩ := FX.out w' hD.1
          go_simp; rfl
        simp only [Act.put, List.setIfInBounds_toArray, List.set_cons_succ, List.set_cons_zero, Nat.reduceAdd]
        refine wM_val ?ub5 rfl rfl Ext.refl (fun w' hD => ?hb5) (fun phb5 => ?nb5)
        case hb5 =>
          obtain ⟨d0, d1, d2⟩ := FX.out w' hD.1
          go_simp; rfl
        simp only [Act.put, List.setIfInBounds_toArray, List.set_cons_succ, List.set_cons_zero, Nat.reduceAdd]
        refine wM_val ?ub6 rfl rfl Ext.refl (fun w' hD => ?hb6) (fun phb6 => ?nb6)
        case hb6 =>
          obtain ⟨d0, d1, d2⟩ := FX.out w' hD.1
          go_simp; rfl
        simp only [Act.put, List.setIfInBounds_toArray, List.set_cons_succ, List.set_cons_zero, Nat.reduceAdd]
        refine wM_val ?ub7 rfl rfl Ext.refl (fun w' hD => ?hb7) (fun phb7 => ?nb7)
        case hb7 =>
          obtain ⟨d0, d1, d2⟩ := FX.out w' hD.1
          go_simp; rfl
        simp only [Act.put, List.setIfInBounds_toArray, List.set_cons_succ, List.set_cons_zero, Nat.reduceAdd]
        refine wM_val ?ub8 rfl rfl Ext.refl (fun w' hD => ?hb8) (fun phb8 => ?nb8)
        case hb8 =>
          obtain ⟨d0, d1, d2⟩ := FX.out w' hD.1
          go_simp; rfl
        simp only [Act.put, List.setIfInBounds_toArray, List.set_cons_succ, List.set_cons_zero, Nat.reduceAdd]
        rw [HQ.out]
        refine wM_val ?ub9 rfl rfl Ext.refl (fun w' hD => ?hb9) (fun phb9 => ?nb9)
        case hb9 =>
          obtain ⟨d0, d1, d2⟩ := FX.out w' hD.1
          go_simp; rfl
        simp only [Act.put, List.setIfInBounds_toArray, List.set_cons_succ, List.set_cons_zero, Nat.reduceAdd]
        refine wM_val ?ub10 rfl rfl Ext.refl (fun w' hD => ?hb10) (fun phb10 => ?nb10)
        case hb10 =>
          obtain ⟨d0, d1, d2⟩ := FX.out w' hD.1
          go_simp; rfl
        simp only [Act.put, List.setIfInBounds_toArray, List.set_cons_succ, List.set_cons_zero, Nat.reduceAdd]
        refine wM_val ?ub11 rfl rfl Ext.refl (fun w' hD => ?hb11) (fun phb11 => ?nb11)
        case hb11 =>
          obtain ⟨d0, d1, d2⟩ := FX.out w' hD.1
          go_simp; rfl
        simp only [Act.put, List.setIfInBounds_toArray, List.set_cons_succ, List.set_cons_zero, Nat.reduceAdd]
        refine wM_nil ?_
        intro w9 hw9 hF9
        obtain ⟨fn, tmps, assign, body, hy, hR⟩ := HY.out pre ⟨kk, hmem⟩ w9 (abides_ext HJ.out hJ1 hw9) hlen
        simp only [encNP] at hy
        gi_wp2
        refine ⟨fun h => (by cases h), hR.mono ?_⟩
        rintro e W3 (⟨rfl, hJ3, hk3⟩ | ⟨rfl, hJx3⟩)
        · have hkc : Cel X wr W3 := (Ext.cel hw9).trans hk3
          gi_wp2
          go_roundw
          case rel => exact ⟨kk + 1, _, by omega, by go_num, hJ3, Eq.trans (by rw [HN2.out]; simp) HP.out, hkr.trans hkc⟩
          case measure => simp [intOf]; omega
        · gi_wp2
          refine bodyPost_ret (results_none rfl _ _ _) rfl ?_
          exact ⟨⟨_, rfl⟩, .inr ⟨_, trivial, hJx3⟩⟩
      · have HQ : Hid (decide (g p kk ≤ 1) = false) := by simpa [Hid] using hg
        have HN2 : Hid ((List.range' kk (P - kk)).filter (fun q => decide (g p q ≤ 1)) = (List.range' (kk + 1) (P - (kk + 1))).filter (fun q => decide (g p q ≤ 1))) := by unfold Hid; rw [HN.out, if_neg hg]; rfl
        clear hg
        gi_wp2
        refine wpW_region_shut Ext (fun w' => Ext wr w') (fun _ => none) (by kernel_rfl) (by kernel_rfl) (fun _ _ h k => h.trans k) (fun i R h => by cases h) (Ext.drew (Ext.refl wr)) ?_
        refine wM_val ?ua0 rfl rfl Ext.refl (fun w' hD => ?ha0) (fun pha0 => ?na0)
        case ha0 =>
          obtain ⟨d0, d1, d2⟩ := FX.out w' hD.1
          go_simp; rfl
        simp only [Act.put, List.setIfInBounds_toArray, List.set_cons_succ, List.set_cons_zero, Nat.reduceAdd]
        refine wM_val ?ua1 rfl rfl Ext.refl (fun w' hD => ?ha1) (fun pha1 => ?na1)
        case ha1 =>
          obtain ⟨d0, d1, d2⟩ := FX.out w' hD.1
          go_simp; rfl
        simp only [Act.put, List.setIfInBounds_toArray, List.set_cons_succ, List.set_cons_zero, Nat.reduceAdd]
        refine wM_val ?ua2 rfl rfl Ext.refl (fun w' hD => ?ha2) (fun pha2 => ?na2)
        case ha2 =>
          obtain ⟨d0, d1, d2⟩ := FX.out w' hD.1
          go_simp; rfl
        simp only [Act.put, List.setIfInBounds_toArray, List.set_cons_succ, List.set_cons_zero, Nat.reduceAdd]
        refine wM_val ?ua3 rfl rfl Ext.refl (fun w' hD => ?ha3) (fun pha3 => ?na3)
        case ha3 =>
          obtain ⟨d0, d1, d2⟩ := FX.out w' hD.1
          go_simp; rfl
        simp only [Act.put, List.setIfInBounds_toArray, List.set_cons_succ, List.set_cons_zero, Nat.reduceAdd]
        refine wM_val ?ua4 rfl rfl Ext.refl (fun w' hD => ?ha4) (fun pha4 => ?na4)
        case ha4 =>
          obtain ⟨d0, d1, d2⟩ := FX.out w' hD.1
          go_simp; rfl
        simp only [Act.put, List.setIfInBounds_toArray, List.set_cons_succ, List.set_cons_zero, Nat.reduceAdd]
        refine wM_val ?ua5 rfl rfl Ext.refl (fun w' hD => ?ha5) (fun pha5 => ?na5)
        case ha5 =>
          obtain ⟨d0, d1, d2⟩ := FX.out w' hD.1
          go_simp; rfl
        simp only [Act.put, List.setIfInBounds_toArray, List.set_cons_succ, List.set_cons_zero, Nat.reduceAdd]
        refine wM_val ?ua6 rfl rfl Ext.refl (fun w' hD => ?ha6) (fun pha6 => ?na6)
        case ha6 =>
          obtain ⟨d0, d1, d2⟩ := FX.out w' hD.1
          go_simp; rfl
        simp only [Act.put, List.setIfInBounds_toArray, List.set_cons_succ, List.set_cons_zero, Nat.reduceAdd]
        refine wM_val ?ua7 rfl rfl Ext.refl (fun w' hD => ?ha7) (fun pha7 => ?na7)
        case ha7 =>
          obtain ⟨d0, d1, d2⟩ := FX.out w' hD.1
          go_simp; rfl
        simp only [Act.put, List.setIfInBounds_toArray, List.set_cons_succ, List.set_cons_zero, Nat.reduceAdd]
        refine wM_val ?ua8 rfl rfl Ext.refl (fun w' hD => ?ha8) (fun pha8 => ?na8)
        case ha8 =>
          obtain ⟨d0, d1, d2⟩ := FX.out w' hD.1
          go_simp; rfl
        simp only [Act.put, List.setIfInBounds_toArray, List.set_cons_succ, List.set_cons_zero, Nat.reduceAdd]
        rw [HQ.out]
        refine wM_val ?ua9 rfl rfl Ext.refl (fun w' hD => ?ha9) (fun pha9 => ?na9)
        case ha9 =>
          obtain ⟨d0, d1, d2⟩ := FX.out w' hD.1
          go_simp; rfl
        simp only [Act.put, List.setIfInBounds_toArray, List.set_cons_succ, List.set_cons_zero, Nat.reduceAdd]
        refine wM_skip rfl ?_
        simp only [Act.put, List.setIfInBounds_toArray, List.set_cons_succ, List.set_cons_zero, Nat.reduceAdd]
        refine wM_skip rfl ?_
        simp only [Act.put, List.setIfInBounds_toArray, List.set_cons_succ, List.set_cons_zero, Nat.reduceAdd]
        refine wM_skip rfl ?_
        simp only [Act.put, List.setIfInBounds_toArray, List.set_cons_succ, List.set_cons_zero, Nat.reduceAdd]
        refine wM_skip rfl ?_
        simp only [Act.put, List.setIfInBounds_toArray, List.set_cons_succ, List.set_cons_zero, Nat.reduceAdd]
        refine wM_val ?ua14 rfl rfl Ext.refl (fun w' hD => ?ha14) (fun pha14 => ?na14)
        case ha14 =>
          obtain ⟨d0, d1, d2⟩ := FX.out w' hD.1
          go_simp; rfl
        simp only [Act.put, List.setIfInBounds_toArray, List.set_cons_succ, List.set_cons_zero, Nat.reduceAdd]
        refine wM_nil ?_
        intro w9 hw9 hF9
        have hJ9 := abides_ext HJ.out hJ1 hw9
        gi_wp2
        go_roundw
        case rel => exact ⟨kk + 1, _, by omega, by go_num, hJ9, Eq.trans (by rw [HN2.out]) HP.out, hkr.trans hw9.cel⟩
        case measure => simp [intOf]; omega
    · have hlt' : ¬ (kk : Int) < (P : Int) := by omega
      have HE : Hid (pre.map (·.1) = L) := Eq.trans (by rw [show P - kk = 0 by omega]; simp) HP.out
      gi_wp2
      go_end0
      exact ⟨⟨_, rfl⟩, .inl ⟨_, HE.out, hJ1⟩⟩

theorem next_stops (n D Bd Bp X : Nat) (f : Fg) (g : Mat) (p : Nat) (s : Ads) (w : World) (hpl : 0 ≤ f.pl ∧ f.pl ≤ 8) (hp : p < 8) (hD : D ≠ X) (hBd : Bd ≠ X) (hBp : Bp ≠ X)
    (hd : Dk w D s f g) (kd : w.cell? ⟨Bd, 0, none⟩ = some (.pointer (some ⟨D, 0, none⟩))) (kp : w.cell? ⟨Bp, 0, none⟩ = some (.int .i64 (p : Int))) :
    SeqStopsK Fence.wide n Tryz.prog 235 #[.pointer (some ⟨Bd, 0, none⟩), .pointer (some ⟨Bp, 0, none⟩)] (encNP (L := nxt g f.pl.toNat p)) (Cel X) (fun xs => xs.map (·.1) = nxt g f.pl.toNat p) (fun _ => True) (nxt g f.pl.toNat p).length w :=
  fun l J Jx W hW hJ _ hY h0 => by
    have hW : Ext w W := hW
    exact next1_in n l D Bd Bp X f g p _ rfl J Jx hpl hp hD hBd hBp hY W hJ s (fun i u hu => by rw [(hd.ext hW).cell]; exact hu) (hW.cell kd) (hW.cell kp) h0

theorem all1_fn (w : World) : FnP Tryz.prog (.func (.func 155) #[] #[]) w IntR anyx allF := by
  refine ⟨_, _, _, rfl, enters_of Tryz.func155 (by kernel_rfl) rfl, fun x v W hs hW hR => ?_⟩
  obtain rfl : v = .int .i64 x := hR
  show Calls _ _ #[_] _ _
  go_enter Tryz.func155, Tryz.ntmps155
  go_wp2
  go_ret
  exact ⟨rfl, Ext.refl _⟩
theorem alls_any (w : World) : Calls Tryz.prog 62 #[] w fun e w' => e = .returned (.agg #[.func (.func 155) #[] #[]]) ∧ Ext w w' := by
  go_enter Tryz.func62, Tryz.ntmps62
  go_wp2
  go_returns
  exact ⟨rfl, Ext.alloc (Ext.refl _) _⟩

set_option maxRecDepth 100000 in
set_option maxHeartbeats 4000000 in
theorem agrees_any (D : Nat) (s : Ads) (f : Fg) (g : Mat) (c : Ct) (cv fv : Value) (sel : Int → Bool) (m p : Nat) (w : World) (hd : Dk w D s f g) (hr : FRows w s f) (hok : FogOK f) (hcm : c ∈ f.ct) (hc : CtR w cv c) (hfv : FnP Tryz.prog fv w IntR anyx sel) (hp : p < 8) :
    Calls Tryz.prog 221 #[.pointer (some ⟨D, 0, none⟩), cv, .agg #[fv], .agg #[.int .i64 (m : Int), .int .i64 (p : Int)]] w fun e w' => e = .returned (.bool (agC g f c sel m p)) ∧ Ext w w' := by
  obtain ⟨A1, c1, A2, c2, rfl, hS, hR, hk1, hk2⟩ := hc
  obtain ⟨fg, fst, lb, rfl, eg, hcall⟩ := hfv
  have HCALL := hid hcall
  have HOK := hid hok
  have hl8 := hok.rn c hcm
  have HRP := hid (hok.rp c hcm)
  have HBN := hid hok.bn
  have HF : Hid (agC g f c sel m p = agL g f sel m p 0 (c.rp.drop 0)) := rfl
  generalize agC g f c sel m p = F at HF ⊢
  clear hcall hok hcm
  go_enter Tryz.func221, Tryz.ntmps221
  go_wp2
  obtain ⟨W1, hW1⟩ : ∃ W1, ((w.alloc (.cells #[.slice A1 c.st.length c1, .slice A2 c.rp.length c2] 63)).alloc (.cells #[.func (.func fg) fst lb] 128)).alloc (.cells #[.int .i64 (m : Int), .int .i64 (p : Int)] 205) = W1 := ⟨_, rfl⟩
  have hX1 : Ext w W1 := by rw [← hW1]; exact (((Ext.refl w).alloc _).alloc _).alloc _
  have FX0 : Hid (∀ w', Ext W1 w' → w'.cell? ⟨w.heap.size + 1, 0, none⟩ = some (.func (.func fg) fst lb) ∧ w'.cell? ⟨w.heap.size + 1 + 1, 0, none⟩ = some (.int .i64 (m : Int)) ∧ w'.cell? ⟨w.heap.size + 1 + 1, 1, none⟩ = some (.int .i64 (p : Int))) := fun w' h =>
    ⟨h.cell (by rw [← hW1]; simp [go_sem]), h.cell (by rw [← hW1]; simp [go_sem]), h.cell (by rw [← hW1]; simp [go_sem])⟩
  rw [hW1]
  clear hW1
  go_loopw [15] (fun i wr => ∃ kk : Nat, kk ≤ c.rp.length ∧ i = .int .i64 kk ∧ Ext W1 wr ∧ Hid (F = agL g f sel m p kk (c.rp.drop kk))) (fun i _ => c.rp.length - (intOf i).toNat)
  case atStart => exact ⟨0, Nat.zero_le _, rfl, Ext.refl _, HF⟩
  case round =>
    obtain ⟨kk, hk, rfl, hxr, HF⟩ := hrel
    have hx := hX1.trans hxr
    by_cases hlt : kk < c.rp.length
    · have hlt' : (kk : Int) < (c.rp.length : Int) := by omega
      obtain ⟨⟨rb, rh⟩, hrr⟩ := get_of_lt c.rp kk hlt
      have hrb := HRP.out _ (mem_of_get hrr)
      simp only at hrb
      obtain ⟨rn, rfl⟩ : ∃ k : Nat, rb = k := ⟨rb.toNat, by omega⟩
      have hrn : rn < f.bl.length := by omega
      have hrn' : (rn : Int) < (f.bl.length : Int) := by omega
      obtain ⟨⟨bm, bp, bl⟩, hbb⟩ := get_of_lt f.bl rn hrn
      have hbp := (HOK.out.bl _ (mem_of_get hbb)).2.1
      have hpl8 := HOK.out.pl.2
      simp only at hbp
      obtain ⟨q, rfl⟩ : ∃ k : Nat, bp = k := ⟨bp.toNat, by omega⟩
      have hq8 : q < 8 := by omega
      obtain ⟨b1, off1, hA2, e0, e1⟩ := Reps.at_ (hR.ext hx) hrr
      have HA2 := hid hA2
      obtain ⟨b2, off2, hA3, g0, g1, g2⟩ := Blasts.at_ (hr.bl.ext hx) hbb
      have HA3 := hid hA3
      have HD := hid (agL_drop (g := g) (f := f) (sel := sel) (m := m) (p := p) hrr)
      have HBL : Hid (blAt f ((rn : Int)) = ⟨bm, (q : Int), bl⟩) := blAt_get (by simpa using hbb)
      simp only at e0 e1 g0 g1 g2
      have t0 := (hd.ext hx).bl
      have hdr0 := hid (hd.ext hx)
      rw [hA2]
      rw [hA3] at t0
      clear hrr hbb hA2 hA3 hbp hpl8 hrb
      obtain ⟨W2, hW2⟩ : ∃ W2, wr.alloc (.cells #[.int .i64 (rn : Int), .bool rh] 82) = W2 := ⟨_, rfl⟩
      have hx2 : Ext wr W2 := by rw [← hW2]; exact Ext.alloc (Ext.refl _) _
      have r0 : W2.cell? ⟨wr.heap.size, 0, none⟩ = some (.int .i64 (rn : Int)) := by rw [← hW2]; simp [go_sem]
      have r1 : W2.cell? ⟨wr.heap.size, 1, none⟩ = some (.bool rh) := by rw [← hW2]; simp [go_sem]
      have t2 := hx2.cell t0
      have g02 := hx2.cell g0
      have g12 := hx2.cell g1
      have g22 := hx2.cell g2
      have r0' := fun o => (Ext.alloc (Ext.refl W2) o).cell r0
      have t2' := fun o => (Ext.alloc (Ext.refl W2) o).cell t2
      have g02' := fun o => (Ext.alloc (Ext.refl W2) o).cell g02
      have g12' := fun o => (Ext.alloc (Ext.refl W2) o).cell g12
      have g22' := fun o => (Ext.alloc (Ext.refl W2) o).cell g22
      clear g0 g1 g2 t0
      go_wp2
      try rw [hW2]
      clear hW2
      go_region
      obtain ⟨W3, hW3⟩ : ∃ W3, (W2.alloc (.cells #[.int .i64 bm, .int .i64 (q : Int), .int .i64 bl] 39)).drew = W3 := ⟨_, rfl⟩
      have hx3 : Ext W2 W3 := by rw [← hW3]; exact Ext.drew (Ext.alloc (Ext.refl _) _)
      have hkw : Kc w W3 := (hx.trans (hx2.trans hx3)).kc
      have hx13 := hxr.trans (hx2.trans hx3)
      have hdr := (hd.ext hx).ext (hx2.trans hx3)
      have FX : Hid (∀ w', Ext W3 w' → w'.cell? ⟨W2.heap.size, 0, none⟩ = some (.int .i64 bm) ∧ w'.cell? ⟨W2.heap.size, 1, none⟩ = some (.int .i64 (q : Int)) ∧ w'.cell? ⟨W2.heap.size, 2, none⟩ = some (.int .i64 bl) ∧
          w'.cell? ⟨w.heap.size + 1, 0, none⟩ = some (.func (.func fg) fst lb) ∧ w'.cell? ⟨w.heap.size + 1 + 1, 0, none⟩ = some (.int .i64 (m : Int)) ∧ w'.cell? ⟨w.heap.size + 1 + 1, 1, none⟩ = some (.int .i64 (p : Int)) ∧ w'.cell? ⟨wr.heap.size, 1, none⟩ = some (.bool rh)) := fun w' h =>
        ⟨h.cell (by rw [← hW3]; simp [go_sem]), h.cell (by rw [← hW3]; simp [go_sem]), h.cell (by rw [← hW3]; simp [go_sem]), (FX0.out w' (hx13.trans h)).1, (FX0.out w' (hx13.trans h)).2.1, (FX0.out w' (hx13.trans h)).2.2, (hx3.trans h).cell r1⟩
      rw [hW3]
      have hBX : badR g f sel m p kk ⟨(rn : Int), rh⟩ = ((bm == (m : Int)) && sel (kk : Int) && (heardM g ⟨bm, (q : Int), bl⟩ p != rh)) := by
        unfold badR
        simp only [HBL.out]
        cases (heardM g ⟨bm, (q : Int), bl⟩ p != rh) <;> cases sel (kk : Int) <;> simp [decide_eq_true_eq, Bool.beq_eq_decide_eq]
      have HFB : Hid (F = (!((bm == (m : Int)) && sel (kk : Int) && (heardM g ⟨bm, (q : Int), bl⟩ p != rh)) && agL g f sel m p (kk + 1) (c.rp.drop (kk + 1)))) := by unfold Hid; rw [← hBX, ← HD.out]; exact HF.out
      clear hW3 hBX HF e0 e1 r0 r1 t2 g02 g12 g22 r0' t2' g02' g12' g22' HD hdr0 HBL
      cases hq : (bm == (m : Int))
      · have HQ := hid hq
        have HN : Hid (F = agL g f sel m p (kk + 1) (c.rp.drop (kk + 1))) := by unfold Hid; rw [HFB.out, hq]; rfl
        clear hq HFB
        go_wp2
        refine wp_region_shut Ext (fun w' => Ext W3 w') (fun _ => none) (by kernel_rfl) (by kernel_rfl) (fun _ _ h k => h.trans k) (fun i R h => by cases h) (Ext.drew (Ext.refl W3)) ?_
        refine wM_val ?ua0 rfl rfl Ext.refl (fun w' hD => ?ha0) (fun pha0 => ?na0)
        case ha0 =>
          obtain ⟨d0, d1, d2, d3, d4, d5, d6⟩ := FX.out w' hD.1
          go_simp; rfl
        simp only [Act.put, List.setIfInBounds_toArray, List.set_cons_succ, List.set_cons_zero, Nat.reduceAdd]
        refine wM_val ?ua1 rfl rfl Ext.refl (fun w' hD => ?ha1) (fun pha1 => ?na1)
        case ha1 =>
          obtain ⟨d0, d1, d2, d3, d4, d5, d6⟩ := FX.out w' hD.1
          go_simp; rfl
        simp only [Act.put, List.setIfInBounds_toArray, List.set_cons_succ, List.set_cons_zero, Nat.reduceAdd]
        refine wM_val ?ua2 rfl rfl Ext.refl (fun w' hD => ?ha2) (fun pha2 => ?na2)
        case ha2 =>
          obtain ⟨d0, d1, d2, d3, d4, d5, d6⟩ := FX.out w' hD.1
          go_simp; rfl
        simp only [Act.put, List.setIfInBounds_toArray, List.set_cons_succ, List.set_cons_zero, Nat.reduceAdd]
        refine wM_val ?ua3 rfl rfl Ext.refl (fun w' hD => ?ha3) (fun pha3 => ?na3)
        case ha3 =>
          obtain ⟨d0, d1, d2, d3, d4, d5, d6⟩ := FX.out w' hD.1
          go_simp; rfl
        simp only [Act.put, List.setIfInBounds_toArray, List.set_cons_succ, List.set_cons_zero, Nat.reduceAdd]
        refine wM_val ?ua4 rfl rfl Ext.refl (fun w' hD => ?ha4) (fun pha4 => ?na4)
        case ha4 =>
          obtain ⟨d0, d1, d2, d3, d4, d5, d6⟩ := FX.out w' hD.1
          go_simp; rfl
        simp only [Act.put, List.setIfInBounds_toArray, List.set_cons_succ, List.set_cons_zero, Nat.reduceAdd]
        rw [HQ.out]
        refine wM_val ?ua5 rfl rfl Ext.refl (fun w' hD => ?ha5) (fun pha5 => ?na5)
        case ha5 =>
          obtain ⟨d0, d1, d2, d3, d4, d5, d6⟩ := FX.out w' hD.1
          go_simp; rfl
        simp only [Act.put, List.setIfInBounds_toArray, List.set_cons_succ, List.set_cons_zero, Nat.reduceAdd]
        refine wM_skip rfl ?_
        simp only [Act.put, List.setIfInBounds_toArray, List.set_cons_succ, List.set_cons_zero, Nat.reduceAdd]
        refine wM_skip rfl ?_
        simp only [Act.put, List.setIfInBounds_toArray, List.set_cons_succ, List.set_cons_zero, Nat.reduceAdd]
        refine wM_skip rfl ?_
        simp only [Act.put, List.setIfInBounds_toArray, List.set_cons_succ, List.set_cons_zero, Nat.reduceAdd]
        refine wM_skip rfl ?_
        simp only [Act.put, List.setIfInBounds_toArray, List.set_cons_succ, List.set_cons_zero, Nat.reduceAdd]
        refine wM_val ?ua10 rfl rfl Ext.refl (fun w' hD => ?ha10) (fun pha10 => ?na10)
        case ha10 =>
          obtain ⟨d0, d1, d2, d3, d4, d5, d6⟩ := FX.out w' hD.1
          go_simp; rfl
        simp only [Act.put, List.setIfInBounds_toArray, List.set_cons_succ, List.set_cons_zero, Nat.reduceAdd]
        refine wM_val ?ua11 rfl rfl Ext.refl (fun w' hD => ?ha11) (fun pha11 => ?na11)
        case ha11 =>
          obtain ⟨d0, d1, d2, d3, d4, d5, d6⟩ := FX.out w' hD.1
          go_simp; rfl
        simp only [Act.put, List.setIfInBounds_toArray, List.set_cons_succ, List.set_cons_zero, Nat.reduceAdd]
        refine wM_skip rfl ?_
        simp only [Act.put, List.setIfInBounds_toArray, List.set_cons_succ, List.set_cons_zero, Nat.reduceAdd]
        refine wM_skip rfl ?_
        simp only [Act.put, List.setIfInBounds_toArray, List.set_cons_succ, List.set_cons_zero, Nat.reduceAdd]
        refine wM_skip rfl ?_
        simp only [Act.put, List.setIfInBounds_toArray, List.set_cons_succ, List.set_cons_zero, Nat.reduceAdd]
        refine wM_skip rfl ?_
        simp only [Act.put, List.setIfInBounds_toArray, List.set_cons_succ, List.set_cons_zero, Nat.reduceAdd]
        refine wM_skip rfl ?_
        simp only [Act.put, List.setIfInBounds_toArray, List.set_cons_succ, List.set_cons_zero, Nat.reduceAdd]
        refine wM_skip rfl ?_
        simp only [Act.put, List.setIfInBounds_toArray, List.set_cons_succ, List.set_cons_zero, Nat.reduceAdd]
        refine wM_skip rfl ?_
        simp only [Act.put, List.setIfInBounds_toArray, List.set_cons_succ, List.set_cons_zero, Nat.reduceAdd]
        refine wM_skip rfl ?_
        simp only [Act.put, List.setIfInBounds_toArray, List.set_cons_succ, List.set_cons_zero, Nat.reduceAdd]
        refine wM_val ?ua20 rfl rfl Ext.refl (fun w' hD => ?ha20) (fun pha20 => ?na20)
        case ha20 =>
          obtain ⟨d0, d1, d2, d3, d4, d5, d6⟩ := FX.out w' hD.1
          go_simp; rfl
        simp only [Act.put, List.setIfInBounds_toArray, List.set_cons_succ, List.set_cons_zero, Nat.reduceAdd]
        refine wM_nil ?_
        intro w9 hw9 hF9
        go_wp2
        go_roundw
        case rel => exact ⟨kk + 1, by omega, by go_num, hx13.trans hw9, HN⟩
        case measure => simp [intOf]; omega
      · have HQ := hid hq
        cases hq2 : sel (kk : Int)
        · have HQ2 := hid hq2
          have HN : Hid (F = agL g f sel m p (kk + 1) (c.rp.drop (kk + 1))) := by unfold Hid; rw [HFB.out, hq, hq2]; rfl
          clear hq hq2 HFB
          go_wp2
          refine wp_region_shut Ext (fun w' => Ext W3 w') (fun | 9 => some (fun v _ => v = .bool (sel (kk : Int))) | _ => none) (by kernel_rfl) (by kernel_rfl) (fun _ _ h k => h.trans k) ?hT (Ext.drew (Ext.refl W3)) ?_
          case hT =>
            intro i R hR
            match i, hR with
            | 9, hR => cases hR; exact fun _ _ _ h _ => h
          refine wM_val ?ub0 rfl rfl Ext.refl (fun w' hD => ?hb0) (fun phb0 => ?nb0)
          case hb0 =>
            obtain ⟨d0, d1, d2, d3, d4, d5, d6⟩ := FX.out w' hD.1
            go_simp; rfl
          simp only [Act.put, List.setIfInBounds_toArray, List.set_cons_succ, List.set_cons_zero, Nat.reduceAdd]
          refine wM_val ?ub1 rfl rfl Ext.refl (fun w' hD => ?hb1) (fun phb1 => ?nb1)
          case hb1 =>
            obtain ⟨d0, d1, d2, d3, d4, d5, d6⟩ := FX.out w' hD.1
            go_simp; rfl
          simp only [Act.put, List.setIfInBounds_toArray, List.set_cons_succ, List.set_cons_zero, Nat.reduceAdd]
          refine wM_val ?ub2 rfl rfl Ext.refl (fun w' hD => ?hb2) (fun phb2 => ?nb2)
          case hb2 =>
            obtain ⟨d0, d1, d2, d3, d4, d5, d6⟩ := FX.out w' hD.1
            go_simp; rfl
          simp only [Act.put, List.setIfInBounds_toArray, List.set_cons_succ, List.set_cons_zero, Nat.reduceAdd]
          refine wM_val ?ub3 rfl rfl Ext.refl (fun w' hD => ?hb3) (fun phb3 => ?nb3)
          case hb3 =>
            obtain ⟨d0, d1, d2, d3, d4, d5, d6⟩ := FX.out w' hD.1
            go_simp; rfl
          simp only [Act.put, List.setIfInBounds_toArray, List.set_cons_succ, List.set_cons_zero, Nat.reduceAdd]
          refine wM_val ?ub4 rfl rfl Ext.refl (fun w' hD => ?hb4) (fun phb4 => ?nb4)
          case hb4 =>
            obtain ⟨d0, d1, d2, d3, d4, d5, d6⟩ := FX.out w' hD.1
            go_simp; rfl
          simp only [Act.put, List.setIfInBounds_toArray, List.set_cons_succ, List.set_cons_zero, Nat.reduceAdd]
          rw [HQ.out]
          refine wM_val ?ub5 rfl rfl Ext.refl (fun w' hD => ?hb5) (fun phb5 => ?nb5)
          case hb5 =>
            obtain ⟨d0, d1, d2, d3, d4, d5, d6⟩ := FX.out w' hD.1
            go_simp; rfl
          simp only [Act.put, List.setIfInBounds_toArray, List.set_cons_succ, List.set_cons_zero, Nat.reduceAdd]
          refine wM_val ?ub6 rfl rfl Ext.refl (fun w' hD => ?hb6) (fun phb6 => ?nb6)
          case hb6 =>
            obtain ⟨d0, d1, d2, d3, d4, d5, d6⟩ := FX.out w' hD.1
            go_simp; rfl
          simp only [Act.put, List.setIfInBounds_toArray, List.set_cons_succ, List.set_cons_zero, Nat.reduceAdd]
          refine wM_val ?ub7 rfl rfl Ext.refl (fun w' hD => ?hb7) (fun phb7 => ?nb7)
          case hb7 =>
            obtain ⟨d0, d1, d2, d3, d4, d5, d6⟩ := FX.out w' hD.1
            go_simp; rfl
          simp only [Act.put, List.setIfInBounds_toArray, List.set_cons_succ, List.set_cons_zero, Nat.reduceAdd]
          refine wM_val ?ub8 rfl rfl Ext.refl (fun w' hD => ?hb8) (fun phb8 => ?nb8)
          case hb8 =>
            obtain ⟨d0, d1, d2, d3, d4, d5, d6⟩ := FX.out w' hD.1
            go_simp; rfl
          simp only [Act.put, List.setIfInBounds_toArray, List.set_cons_succ, List.set_cons_zero, Nat.reduceAdd]
          refine wM_op _ rfl rfl (opens_call ?fb9 ?gb9 (fun w' hD => ?hb9) (fun w' hD => ?cb9)) (fun v9 hv9 => ?nb9)
          case hb9 => go_simp; constructor <;> rfl
          case cb9 =>
            refine (HCALL.out (kk : Int) _ w' trivial (hkw.trans hD.1.kc) rfl).mono ?_
            rintro e w2 ⟨rfl, hb⟩
            exact ⟨_, rfl, hb, rfl⟩
          obtain ⟨_, -, -, rfl⟩ := hv9
          simp only [Act.put, List.setIfInBounds_toArray, List.set_cons_succ, List.set_cons_zero, Nat.reduceAdd]
          rw [HQ2.out]
          refine wM_val ?ub10 rfl rfl Ext.refl (fun w' hD => ?hb10) (fun phb10 => ?nb10)
          case hb10 =>
            obtain ⟨d0, d1, d2, d3, d4, d5, d6⟩ := FX.out w' hD.1
            go_simp; rfl
          simp only [Act.put, List.setIfInBounds_toArray, List.set_cons_succ, List.set_cons_zero, Nat.reduceAdd]
          refine wM_val ?ub11 rfl rfl Ext.refl (fun w' hD => ?hb11) (fun phb11 => ?nb11)
          case hb11 =>
            obtain ⟨d0, d1, d2, d3, d4, d5, d6⟩ := FX.out w' hD.1
            go_simp; rfl
          simp only [Act.put, List.setIfInBounds_toArray, List.set_cons_succ, List.set_cons_zero, Nat.reduceAdd]
          refine wM_skip rfl ?_
          simp only [Act.put, List.setIfInBounds_toArray, List.set_cons_succ, List.set_cons_zero, Nat.reduceAdd]
          refine wM_skip rfl ?_
          simp only [Act.put, List.setIfInBounds_toArray, List.set_cons_succ, List.set_cons_zero, Nat.reduceAdd]
          refine wM_skip rfl ?_
          simp only [Act.put, List.setIfInBounds_toArray, List.set_cons_succ, List.set_cons_zero, Nat.reduceAdd]
          refine wM_skip rfl ?_
          simp only [Act.put, List.setIfInBounds_toArray, List.set_cons_succ, List.set_cons_zero, Nat.reduceAdd]
          refine wM_skip rfl ?_
          simp only [Act.put, List.setIfInBounds_toArray, List.set_cons_succ, List.set_cons_zero, Nat.reduceAdd]
          refine wM_skip rfl ?_
          simp only [Act.put, List.setIfInBounds_toArray, List.set_cons_succ, List.set_cons_zero, Nat.reduceAdd]
          refine wM_skip rfl ?_
          simp only [Act.put, List.setIfInBounds_toArray, List.set_cons_succ, List.set_cons_zero, Nat.reduceAdd]
          refine wM_skip rfl ?_
          simp only [Act.put, List.setIfInBounds_toArray, List.set_cons_succ, List.set_cons_zero, Nat.reduceAdd]
          refine wM_val ?ub20 rfl rfl Ext.refl (fun w' hD => ?hb20) (fun phb20 => ?nb20)
          case hb20 =>
            obtain ⟨d0, d1, d2, d3, d4, d5, d6⟩ := FX.out w' hD.1
            go_simp; rfl
          simp only [Act.put, List.setIfInBounds_toArray, List.set_cons_succ, List.set_cons_zero, Nat.reduceAdd]
          refine wM_nil ?_
          intro w9 hw9 hF9
          go_wp2
          go_roundw
          case rel => exact ⟨kk + 1, by omega, by go_num, hx13.trans hw9, HN⟩
          case measure => simp [intOf]; omega
        · have HQ2 := hid hq2
          cases hq3 : (heardM g ⟨bm, (q : Int), bl⟩ p != rh)
          · have HQ3 := hid hq3
            have HQ3b := hid (show (!(heardM g ⟨bm, (q : Int), bl⟩ p == rh)) = _ from hq3)
            have HN : Hid (F = agL g f sel m p (kk + 1) (c.rp.drop (kk + 1))) := by unfold Hid; rw [HFB.out, hq, hq2, hq3]; rfl
            clear hq hq2 hq3 HFB
            go_wp2
            refine wp_region_shut Ext (fun w' => Ext W3 w') (fun | 9 => some (fun v _ => v = .bool (sel (kk : Int))) | 16 => some (fun v _ => v = .bool (heardM g ⟨bm, (q : Int), bl⟩ p)) | _ => none) (by kernel_rfl) (by kernel_rfl) (fun _ _ h k => h.trans k) ?hT (Ext.drew (Ext.refl W3)) ?_
            case hT =>
              intro i R hR
              match i, hR with
              | 9, hR => cases hR; exact fun _ _ _ h _ => h
              | 16, hR => cases hR; exact fun _ _ _ h _ => h
            refine wM_val ?uc0 rfl rfl Ext.refl (fun w' hD => ?hc0) (fun phc0 => ?nc0)
            case hc0 =>
              obtain ⟨d0, d1, d2, d3, d4, d5, d6⟩ := FX.out w' hD.1
              go_simp; rfl
            simp only [Act.put, List.setIfInBounds_toArray, List.set_cons_succ, List.set_cons_zero, Nat.reduceAdd]
            refine wM_val ?uc1 rfl rfl Ext.refl (fun w' hD => ?hc1) (fun phc1 => ?nc1)
            case hc1 =>
              obtain ⟨d0, d1, d2, d3, d4, d5, d6⟩ := FX.out w' hD.1
              go_simp; rfl
            simp only [Act.put, List.setIfInBounds_toArray, List.set_cons_succ, List.set_cons_zero, Nat.reduceAdd]
            refine wM_val ?uc2 rfl rfl Ext.refl (fun w' hD => ?hc2) (fun phc2 => ?nc2)
            case hc2 =>
              obtain ⟨d0, d1, d2, d3, d4, d5, d6⟩ := FX.out w' hD.1
              go_simp; rfl
            simp only [Act.put, List.setIfInBounds_toArray, List.set_cons_succ, List.set_cons_zero, Nat.reduceAdd]
            refine wM_val ?uc3 rfl rfl Ext.refl (fun w' hD => ?hc3) (fun phc3 => ?nc3)
            case hc3 =>
              obtain ⟨d0, d1, d2, d3, d4, d5, d6⟩ := FX.out w' hD.1
              go_simp; rfl
            simp only [Act.put, List.setIfInBounds_toArray, List.set_cons_succ, List.set_cons_zero, Nat.reduceAdd]
            refine wM_val ?uc4 rfl rfl Ext.refl (fun w' hD => ?hc4) (fun phc4 => ?nc4)
            case hc4 =>
              obtain ⟨d0, d1, d2, d3, d4, d5, d6⟩ := FX.out w' hD.1
              go_simp; rfl
            simp only [Act.put, List.setIfInBounds_toArray, List.set_cons_succ, List.set_cons_zero, Nat.reduceAdd]
            rw [HQ.out]
            refine wM_val ?uc5 rfl rfl Ext.refl (fun w' hD => ?hc5) (fun phc5 => ?nc5)
            case hc5 =>
              obtain ⟨d0, d1, d2, d3, d4, d5, d6⟩ := FX.out w' hD.1
              go_simp; rfl
            simp only [Act.put, List.setIfInBounds_toArray, List.set_cons_succ, List.set_cons_zero, Nat.reduceAdd]
            refine wM_val ?uc6 rfl rfl Ext.refl (fun w' hD => ?hc6) (fun phc6 => ?nc6)
            case hc6 =>
              obtain ⟨d0, d1, d2, d3, d4, d5, d6⟩ := FX.out w' hD.1
              go_simp; rfl
            simp only [Act.put, List.setIfInBounds_toArray, List.set_cons_succ, List.set_cons_zero, Nat.reduceAdd]
            refine wM_val ?uc7 rfl rfl Ext.refl (fun w' hD => ?hc7) (fun phc7 => ?nc7)
            case hc7 =>
              obtain ⟨d0, d1, d2, d3, d4, d5, d6⟩ := FX.out w' hD.1
              go_simp; rfl
            simp only [Act.put, List.setIfInBounds_toArray, List.set_cons_succ, List.set_cons_zero, Nat.reduceAdd]
            refine wM_val ?uc8 rfl rfl Ext.refl (fun w' hD => ?hc8) (fun phc8 => ?nc8)
            case hc8 =>
              obtain ⟨d0, d1, d2, d3, d4, d5, d6⟩ := FX.out w' hD.1
              go_simp; rfl
            simp only [Act.put, List.setIfInBounds_toArray, List.set_cons_succ, List.set_cons_zero, Nat.reduceAdd]
            refine wM_op _ rfl rfl (opens_call ?fc9 ?gc9 (fun w' hD => ?hc9) (fun w' hD => ?cc9)) (fun v9 hv9 => ?nc9)
            case hc9 => go_simp; constructor <;> rfl
            case cc9 =>
              refine (HCALL.out (kk : Int) _ w' trivial (hkw.trans hD.1.kc) rfl).mono ?_
              rintro e w2 ⟨rfl, hb⟩
              exact ⟨_, rfl, hb, rfl⟩
            obtain ⟨_, -, -, rfl⟩ := hv9
            simp only [Act.put, List.setIfInBounds_toArray, List.set_cons_succ, List.set_cons_zero, Nat.reduceAdd]
            rw [HQ2.out]
            refine wM_val ?uc10 rfl rfl Ext.refl (fun w' hD => ?hc10) (fun phc10 => ?nc10)
            case hc10 =>
              obtain ⟨d0, d1, d2, d3, d4, d5, d6⟩ := FX.out w' hD.1
              go_simp; rfl
            simp only [Act.put, List.setIfInBounds_toArray, List.set_cons_succ, List.set_cons_zero, Nat.reduceAdd]
            refine wM_val ?uc11 rfl rfl Ext.refl (fun w' hD => ?hc11) (fun phc11 => ?nc11)
            case hc11 =>
              obtain ⟨d0, d1, d2, d3, d4, d5, d6⟩ := FX.out w' hD.1
              go_simp; rfl
            simp only [Act.put, List.setIfInBounds_toArray, List.set_cons_succ, List.set_cons_zero, Nat.reduceAdd]
            refine wM_val ?uc12 rfl rfl Ext.refl (fun w' hD => ?hc12) (fun phc12 => ?nc12)
            case hc12 =>
              obtain ⟨d0, d1, d2, d3, d4, d5, d6⟩ := FX.out w' hD.1
              go_simp; rfl
            simp only [Act.put, List.setIfInBounds_toArray, List.set_cons_succ, List.set_cons_zero, Nat.reduceAdd]
            refine wM_val ?uc13 rfl rfl Ext.refl (fun w' hD => ?hc13) (fun phc13 => ?nc13)
            case hc13 =>
              obtain ⟨d0, d1, d2, d3, d4, d5, d6⟩ := FX.out w' hD.1
              go_simp; rfl
            simp only [Act.put, List.setIfInBounds_toArray, List.set_cons_succ, List.set_cons_zero, Nat.reduceAdd]
            refine wM_val ?uc14 rfl rfl Ext.refl (fun w' hD => ?hc14) (fun phc14 => ?nc14)
            case hc14 =>
              obtain ⟨d0, d1, d2, d3, d4, d5, d6⟩ := FX.out w' hD.1
              go_simp; rfl
            simp only [Act.put, List.setIfInBounds_toArray, List.set_cons_succ, List.set_cons_zero, Nat.reduceAdd]
            refine wM_val ?uc15 rfl rfl Ext.refl (fun w' hD => ?hc15) (fun phc15 => ?nc15)
            case hc15 =>
              obtain ⟨d0, d1, d2, d3, d4, d5, d6⟩ := FX.out w' hD.1
              go_simp; rfl
            simp only [Act.put, List.setIfInBounds_toArray, List.set_cons_succ, List.set_cons_zero, Nat.reduceAdd]
            refine wM_op _ rfl rfl (opens_call ?fc16 ?gc16 (fun w' hD => ?hc16) (fun w' hD => ?cc16)) (fun v16 hv16 => ?nc16)
            case hc16 => go_simp; constructor <;> rfl
            case cc16 =>
              refine (heard_any D s f g ⟨bm, (q : Int), bl⟩ p w' (hdr.ext hD.1) ⟨by show (0 : Int) ≤ (q : Int); omega, by show (q : Int) < 8; omega⟩ hp).mono ?_
              rintro e w2 ⟨rfl, hb⟩
              exact ⟨_, rfl, hb, rfl⟩
            obtain ⟨_, -, -, rfl⟩ := hv16
            simp only [Act.put, List.setIfInBounds_toArray, List.set_cons_succ, List.set_cons_zero, Nat.reduceAdd]
            refine wM_val ?uc17 rfl rfl Ext.refl (fun w' hD => ?hc17) (fun phc17 => ?nc17)
            case hc17 =>
              obtain ⟨d0, d1, d2, d3, d4, d5, d6⟩ := FX.out w' hD.1
              go_simp; rfl
            simp only [Act.put, List.setIfInBounds_toArray, List.set_cons_succ, List.set_cons_zero, Nat.reduceAdd]
            refine wM_val ?uc18 rfl rfl Ext.refl (fun w' hD => ?hc18) (fun phc18 => ?nc18)
            case hc18 =>
              obtain ⟨d0, d1, d2, d3, d4, d5, d6⟩ := FX.out w' hD.1
              go_simp; rfl
            simp only [Act.put, List.setIfInBounds_toArray, List.set_cons_succ, List.set_cons_zero, Nat.reduceAdd]
            refine wM_val ?uc19 rfl rfl Ext.refl (fun w' hD => ?hc19) (fun phc19 => ?nc19)
            case hc19 =>
              obtain ⟨d0, d1, d2, d3, d4, d5, d6⟩ := FX.out w' hD.1
              go_simp; rfl
            simp only [Act.put, List.setIfInBounds_toArray, List.set_cons_succ, List.set_cons_zero, Nat.reduceAdd]
            first | rw [HQ3.out] | rw [HQ3b.out]
            refine wM_val ?uc20 rfl rfl Ext.refl (fun w' hD => ?hc20) (fun phc20 => ?nc20)
            case hc20 =>
              obtain ⟨d0, d1, d2, d3, d4, d5, d6⟩ := FX.out w' hD.1
              go_simp; rfl
            simp only [Act.put, List.setIfInBounds_toArray, List.set_cons_succ, List.set_cons_zero, Nat.reduceAdd]
            refine wM_nil ?_
            intro w9 hw9 hF9
            go_wp2
            go_roundw
            case rel => exact ⟨kk + 1, by omega, by go_num, hx13.trans hw9, HN⟩
            case measure => simp [intOf]; omega
          · have HQ3 := hid hq3
            have HQ3b := hid (show (!(heardM g ⟨bm, (q : Int), bl⟩ p == rh)) = _ from hq3)
            have HN : Hid (F = false) := by unfold Hid; rw [HFB.out, hq, hq2, hq3]; rfl
            clear hq hq2 hq3 HFB
            go_wp2
            refine wp_region_shut Ext (fun w' => Ext W3 w') (fun | 9 => some (fun v _ => v = .bool (sel (kk : Int))) | 16 => some (fun v _ => v = .bool (heardM g ⟨bm, (q : Int), bl⟩ p)) | _ => none) (by kernel_rfl) (by kernel_rfl) (fun _ _ h k => h.trans k) ?hT2 (Ext.drew (Ext.refl W3)) ?_
            case hT2 =>
              intro i R hR
              match i, hR with
              | 9, hR => cases hR; exact fun _ _ _ h _ => h
              | 16, hR => cases hR; exact fun _ _ _ h _ => h
            refine wM_val ?ue0 rfl rfl Ext.refl (fun w' hD => ?he0) (fun phe0 => ?ne0)
            case he0 =>
              obtain ⟨d0, d1, d2, d3, d4, d5, d6⟩ := FX.out w' hD.1
              go_simp; rfl
            simp only [Act.put, List.setIfInBounds_toArray, List.set_cons_succ, List.set_cons_zero, Nat.reduceAdd]
            refine wM_val ?ue1 rfl rfl Ext.refl (fun w' hD => ?he1) (fun phe1 => ?ne1)
            case he1 =>
              obtain ⟨d0, d1, d2, d3, d4, d5, d6⟩ := FX.out w' hD.1
              go_simp; rfl
            simp only [Act.put, List.setIfInBounds_toArray, List.set_cons_succ, List.set_cons_zero, Nat.reduceAdd]
            refine wM_val ?ue2 rfl rfl Ext.refl (fun w' hD => ?he2) (fun phe2 => ?ne2)
            case he2 =>
              obtain ⟨d0, d1, d2, d3, d4, d5, d6⟩ := FX.out w' hD.1
              go_simp; rfl
            simp only [Act.put, List.setIfInBounds_toArray, List.set_cons_succ, List.set_cons_zero, Nat.reduceAdd]
            refine wM_val ?ue3 rfl rfl Ext.refl (fun w' hD => ?he3) (fun phe3 => ?ne3)
            case he3 =>
              obtain ⟨d0, d1, d2, d3, d4, d5, d6⟩ := FX.out w' hD.1
              go_simp; rfl
            simp only [Act.put, List.setIfInBounds_toArray, List.set_cons_succ, List.set_cons_zero, Nat.reduceAdd]
            refine wM_val ?ue4 rfl rfl Ext.refl (fun w' hD => ?he4) (fun phe4 => ?ne4)
            case he4 =>
              obtain ⟨d0, d1, d2, d3, d4, d5, d6⟩ := FX.out w' hD.1
              go_simp; rfl
            simp only [Act.put, List.setIfInBounds_toArray, List.set_cons_succ, List.set_cons_zero, Nat.reduceAdd]
            rw [HQ.out]
            refine wM_val ?ue5 rfl rfl Ext.refl (fun w' hD => ?he5) (fun phe5 => ?ne5)
            case he5 =>
              obtain ⟨d0, d1, d2, d3, d4, d5, d6⟩ := FX.out w' hD.1
              go_simp; rfl
            simp only [Act.put, List.setIfInBounds_toArray, List.set_cons_succ, List.set_cons_zero, Nat.reduceAdd]
            refine wM_val ?ue6 rfl rfl Ext.refl (fun w' hD => ?he6) (fun phe6 => ?ne6)
            case he6 =>
              obtain ⟨d0, d1, d2, d3, d4, d5, d6⟩ := FX.out w' hD.1
              go_simp; rfl
            simp only [Act.put, List.setIfInBounds_toArray, List.set_cons_succ, List.set_cons_zero, Nat.reduceAdd]
            refine wM_val ?ue7 rfl rfl Ext.refl (fun w' hD => ?he7) (fun phe7 => ?ne7)
            case he7 =>
              obtain ⟨d0, d1, d2, d3, d4, d5, d6⟩ := FX.out w' hD.1
              go_simp; rfl
            simp only [Act.put, List.setIfInBounds_toArray, List.set_cons_succ, List.set_cons_zero, Nat.reduceAdd]
            refine wM_val ?ue8 rfl rfl Ext.refl (fun w' hD => ?he8) (fun phe8 => ?ne8)
            case he8 =>
              obtain ⟨d0, d1, d2, d3, d4, d5, d6⟩ := FX.out w' hD.1
              go_simp; rfl
            simp only [Act.put, List.setIfInBounds_toArray, List.set_cons_succ, List.set_cons_zero, Nat.reduceAdd]
            refine wM_op _ rfl rfl (opens_call ?fe9 ?ge9 (fun w' hD => ?he9) (fun w' hD => ?ce9)) (fun v9 hv9 => ?ne9)
            case he9 => go_simp; constructor <;> rfl
            case ce9 =>
              refine (HCALL.out (kk : Int) _ w' trivial (hkw.trans hD.1.kc) rfl).mono ?_
              rintro e w2 ⟨rfl, hb⟩
              exact ⟨_, rfl, hb, rfl⟩
            obtain ⟨_, -, -, rfl⟩ := hv9
            simp only [Act.put, List.setIfInBounds_toArray, List.set_cons_succ, List.set_cons_zero, Nat.reduceAdd]
            rw [HQ2.out]
            refine wM_val ?ue10 rfl rfl Ext.refl (fun w' hD => ?he10) (fun phe10 => ?ne10)
            case he10 =>
              obtain ⟨d0, d1, d2, d3, d4, d5, d6⟩ := FX.out w' hD.1
              go_simp; rfl
            simp only [Act.put, List.setIfInBounds_toArray, List.set_cons_succ, List.set_cons_zero, Nat.reduceAdd]
            refine wM_val ?ue11 rfl rfl Ext.refl (fun w' hD => ?he11) (fun phe11 => ?ne11)
            case he11 =>
              obtain ⟨d0, d1, d2, d3, d4, d5, d6⟩ := FX.out w' hD.1
              go_simp; rfl
            simp only [Act.put, List.setIfInBounds_toArray, List.set_cons_succ, List.set_cons_zero, Nat.reduceAdd]
            refine wM_val ?ue12 rfl rfl Ext.refl (fun w' hD => ?he12) (fun phe12 => ?ne12)
            case he12 =>
              obtain ⟨d0, d1, d2, d3, d4, d5, d6⟩ := FX.out w' hD.1
              go_simp; rfl
            simp only [Act.put, List.setIfInBounds_toArray, List.set_cons_succ, List.set_cons_zero, Nat.reduceAdd]
            refine wM_val ?ue13 rfl rfl Ext.refl (fun w' hD => ?he13) (fun phe13 => ?ne13)
            case he13 =>
              obtain ⟨d0, d1, d2, d3, d4, d5, d6⟩ := FX.out w' hD.1
              go_simp; rfl
            simp only [Act.put, List.setIfInBounds_toArray, List.set_cons_succ, List.set_cons_zero, Nat.reduceAdd]
            refine wM_val ?ue14 rfl rfl Ext.refl (fun w' hD => ?he14) (fun phe14 => ?ne14)
            case he14 =>
              obtain ⟨d0, d1, d2, d3, d4, d5, d6⟩ := FX.out w' hD.1
              go_simp; rfl
            simp only [Act.put, List.setIfInBounds_toArray, List.set_cons_succ, List.set_cons_zero, Nat.reduceAdd]
            refine wM_val ?ue15 rfl rfl Ext.refl (fun w' hD => ?he15) (fun phe15 => ?ne15)
            case he15 =>
              obtain ⟨d0, d1, d2, d3, d4, d5, d6⟩ := FX.out w' hD.1
              go_simp; rfl
            simp only [Act.put, List.setIfInBounds_toArray, List.set_cons_succ, List.set_cons_zero, Nat.reduceAdd]
            refine wM_op _ rfl rfl (opens_call ?fe16 ?ge16 (fun w' hD => ?he16) (fun w' hD => ?ce16)) (fun v16 hv16 => ?ne16)
            case he16 => go_simp; constructor <;> rfl
            case ce16 =>
              refine (heard_any D s f g ⟨bm, (q : Int), bl⟩ p w' (hdr.ext hD.1) ⟨by show (0 : Int) ≤ (q : Int); omega, by show (q : Int) < 8; omega⟩ hp).mono ?_
              rintro e w2 ⟨rfl, hb⟩
              exact ⟨_, rfl, hb, rfl⟩
            obtain ⟨_, -, -, rfl⟩ := hv16
            simp only [Act.put, List.setIfInBounds_toArray, List.set_cons_succ, List.set_cons_zero, Nat.reduceAdd]
            refine wM_val ?ue17 rfl rfl Ext.refl (fun w' hD => ?he17) (fun phe17 => ?ne17)
            case he17 =>
              obtain ⟨d0, d1, d2, d3, d4, d5, d6⟩ := FX.out w' hD.1
              go_simp; rfl
            simp only [Act.put, List.setIfInBounds_toArray, List.set_cons_succ, List.set_cons_zero, Nat.reduceAdd]
            refine wM_val ?ue18 rfl rfl Ext.refl (fun w' hD => ?he18) (fun phe18 => ?ne18)
            case he18 =>
              obtain ⟨d0, d1, d2, d3, d4, d5, d6⟩ := FX.out w' hD.1
              go_simp; rfl
            simp only [Act.put, List.setIfInBounds_toArray, List.set_cons_succ, List.set_cons_zero, Nat.reduceAdd]
            refine wM_val ?ue19 rfl rfl Ext.refl (fun w' hD => ?he19) (fun phe19 => ?ne19)
            case he19 =>
              obtain ⟨d0, d1, d2, d3, d4, d5, d6⟩ := FX.out w' hD.1
              go_simp; rfl
            simp only [Act.put, List.setIfInBounds_toArray, List.set_cons_succ, List.set_cons_zero, Nat.reduceAdd]
            first | rw [HQ3.out] | rw [HQ3b.out]
            refine wM_val ?ue20 rfl rfl Ext.refl (fun w' hD => ?he20) (fun phe20 => ?ne20)
            case he20 =>
              obtain ⟨d0, d1, d2, d3, d4, d5, d6⟩ := FX.out w' hD.1
              go_simp; rfl
            simp only [Act.put, List.setIfInBounds_toArray, List.set_cons_succ, List.set_cons_zero, Nat.reduceAdd]
            refine wM_nil ?_
            intro w9 hw9 hF9
            go_wp2
            go_ret
            exact ⟨ret_of (bool_of HN.out.symm), hX1.trans (hx13.trans hw9)⟩
    · have hlt' : ¬ (kk : Int) < (c.rp.length : Int) := by omega
      have HN : Hid (F = true) := by unfold Hid; rw [HF.out, agL_end (by omega)]
      go_wp2
      go_ret
      exact ⟨ret_of (bool_of HN.out.symm), hx⟩
end Go.Proofs.YtlonpgbapiemcaaGreat
