/- What the reference's Come lays, row by row; own rows of numbers in a block. Printed by my gen_fref7.py. The walk of the reference's Come. Printed by my gen_fref7.py. The walks of the reference's Count and Can. Printed by my gen_fref8.py. Where the reference says a cart can be: its rows, from the last minute back. The walk of the reference's Can. Printed by my gen_fcanr.py. -/
import Derived.Test.YtpbpcplboikpcaaGreatG7
import Derived.Test.YtpbpcplboikpcaaGreatG1
import Derived.Test.YtpbpcplboikpcaaGreatG8
import Derived.Deep.DeepCutAuto
import Derived.Deep.CutBlock
namespace Go.Proofs.YtpbpcplboikpcaaGreat
open Go Go.RowKit
set_option linter.unusedVariables false
set_option linter.unusedSimpArgs false

theorem besideB_far {f : Fg} (h : FogOK f) {a b : Nat} (ha : a < 8) (hb : b < 8) : besideB f (a : Int) (b : Int) = decide (farM f a b ≤ 1) := by
  rw [Bool.eq_iff_iff, besideB_iff, decide_eq_true_eq]
  have hi := (far_ok h).iff (n := 1) h ha hb (by unfold noWay; omega)
  rw [show ((1 : Nat) : Int) = 1 from rfl] at hi
  rw [← hi]
  constructor
  · rintro (rfl | h1)
    · exact (Go_.here a).stay
    · exact (Go_.here a).step h1
  · intro h1
    cases h1 with
    | stay h2 => cases h2; exact .inl rfl
    | step h2 h3 => cases h2; exact .inr h3

/-! Rows of numbers in a block -/
def Nrow (w : World) (B : Nat) (l : List Int) : Prop := w.heap[B]? = some (.cells (l.map (Value.int .i64)).toArray 3 (0, 0))
theorem Nrow.lt {w : World} {B : Nat} {l : List Int} (h : Nrow w B l) : B < w.heap.size := (Array.getElem?_eq_some_iff.1 h).1
theorem Nrow.ext {w w' : World} {B : Nat} {l : List Int} (h : Nrow w B l) (hx : Ext w w') : Nrow w' B l := (Below.block hx B h.lt).trans h
theorem Nrow.at_ {w : World} {B : Nat} {l : List Int} (h : Nrow w B l) {k : Nat} {x : Int} (hk : l[k]? = some x) : w.cell? ⟨B, k, none⟩ = some (.int .i64 x) := by
  rw [cell_of_row w B k _ _ _ h]; simp [hk]
theorem Nrow.frozen {w : World} {B : Nat} {l : List Int} (h : Nrow w B l) (k : Nat) : w.frozen? ⟨B, k, none⟩ = false := by
  unfold Nrow at h
  simp [World.frozen?, h]
theorem Nrow.set {w : World} {B : Nat} {l : List Int} (h : Nrow w B l) (k : Nat) (x : Int) : Nrow (w.setCell ⟨B, k, none⟩ (.int .i64 x)) B (l.set k x) := by
  unfold Nrow at h ⊢
  simp only [World.setCell, Array.getElem?_modify, h, if_true, Option.map_some]
  simp only [List.setIfInBounds_toArray, List.map_set, Option.isSome_none, Bool.false_eq_true, if_false]
theorem Nrow.setne {w : World} {B : Nat} {l : List Int} (h : Nrow w B l) (p : Addr) (u : Value) (hp : B ≠ p.block) : Nrow (w.setCell p u) B l := (heap_setCell_ne _ _ _ _ hp).trans h
theorem Nrow.ints {w : World} {B : Nat} {l : List Int} (h : Nrow w B l) : Ints w (some ⟨B, 0, none⟩) l :=
  .inr ⟨B, 0, rfl, fun j u hu => by
    rw [Nat.zero_add]
    obtain ⟨x, hx, rfl⟩ : ∃ x, l[j]? = some x ∧ Value.int .i64 x = u := by simpa using hu
    exact h.at_ hx⟩
theorem Nrow.own {w : World} {B base : Nat} {l : List Int} (h : Nrow w B l) (hb : base ≤ B) {n : Nat} (hn : l.length = n) (hm : n ≤ maxLen) : w.ownsRow base 3 1 (.slice (some ⟨B, 0, none⟩) n n) n (l.map (.int .i64)) := by
  refine ⟨by simp [hn], .inr ⟨B, n, _, rfl, hb, h, Nat.le_refl _, hm, by simp [hn], ?_⟩⟩
  rw [Nat.mul_one]
  simp [← hn]
  exact List.take_of_length_le (by simp)
theorem infoInt : (Tryz.prog.info? 3).map (fun i => (i.zero, i.size, i.bytes)) = some (some (.int .i64 0), 1, 8) := by kernel_rfl
theorem made_nrow (n : Nat) : madeCells #[.int .i64 0] n = ((List.replicate n (0 : Int)).map (Value.int .i64)).toArray := by
  apply Array.ext
  · simp [madeCells]
  · intro i h1 h2
    simp [madeCells, Nat.mod_one]

/-! What Come lays -/
section
variable (f : Fg) (c : Ct) (sel : Int → Bool)
def hC (m p q : Nat) : Int := if farM f q p ≤ 1 then comeM (farM f) f c sel m q else 0
/-- What a place has got when the places ahead of q have been added. -/
def partC : Nat → Nat → Nat → Int
  | 0, p, _ => if memI (p : Int) c.st then 1 else 0
  | m + 1, p, q => sumN q (hC f c sel m p)
def midC (m p q y : Nat) : Int := if y < p then comeM (farM f) f c sel m y else if y = p then partC f c sel m p q else 0
def comeR (m : Nat) : List Int := rl f.pl.toNat (comeM (farM f) f c sel m)
def comeL (n : Nat) : List (List Int) := (List.range n).map (comeR f c sel)
end
section
variable {f : Fg} {c : Ct} {sel : Int → Bool}
theorem come_part (m p : Nat) : comeM (farM f) f c sel m p = if agC (farM f) f c sel m p then partC f c sel m p f.pl.toNat else 0 := by
  cases m with
  | zero => rfl
  | succ m => rw [come_succ]; rfl
theorem come_bd (h : FogOK f) {m : Nat} (hm : m ≤ 8) (p : Nat) : 0 ≤ comeM (farM f) f c sel m p ∧ comeM (farM f) f c sel m p ≤ 16777216 := by
  refine ⟨come_nonneg m p, Int.le_trans (come_le h.pl.2 m p) ?_⟩
  have : ∀ k : Fin 9, (8 : Int) ^ k.val ≤ 16777216 := by decide
  exact this ⟨m, by omega⟩
theorem hC_bd (h : FogOK f) {m : Nat} (hm : m ≤ 8) (p q : Nat) : 0 ≤ hC f c sel m p q ∧ hC f c sel m p q ≤ 16777216 := by
  unfold hC
  split
  · exact come_bd h hm q
  · omega
theorem partC_bd (h : FogOK f) {m : Nat} (hm : m ≤ 8) (p : Nat) : ∀ (q : Nat), q ≤ 8 → 0 ≤ partC f c sel m p q ∧ partC f c sel m p q ≤ 16777216 * q + 1
  | q, hq => by
    cases m with
    | zero => unfold partC; split <;> omega
    | succ m =>
      show 0 ≤ sumN q (hC f c sel m p) ∧ sumN q (hC f c sel m p) ≤ _
      induction q with
      | zero => rw [sumN_zero]; omega
      | succ q ih =>
        rw [sumN_succ]
        have h1 := ih (by omega)
        have h2 := hC_bd (c := c) (sel := sel) h (show m ≤ 8 by omega) p q
        omega
theorem partC_next (m p q : Nat) : partC f c sel (m + 1) p (q + 1) = partC f c sel (m + 1) p q + hC f c sel m p q := sumN_succ _ _
theorem mid_start (m p y : Nat) : (if y < p then comeM (farM f) f c sel m y else (0 : Int)) = if y < p then comeM (farM f) f c sel m y else if y = p then 0 else 0 := by split <;> simp
theorem mid_setC (m p q q' P : Nat) (X : Int) (hX : X = partC f c sel m p q') : (rl P (midC f c sel m p q)).set p X = rl P (midC f c sel m p q') := by
  rw [← rl_upd]
  congr 1
  funext y
  unfold upd1 midC
  by_cases e : y = p
  · subst e; rw [if_pos rfl, if_neg (by omega), if_pos rfl, hX]
  · rw [if_neg e]
    by_cases h : y < p
    · rw [if_pos h, if_pos h]
    · rw [if_neg h, if_neg h, if_neg e, if_neg e]
def doneC (f : Fg) (c : Ct) (sel : Int → Bool) (m p y : Nat) : Int := if y < p then comeM (farM f) f c sel m y else 0
theorem done_mid {m p q P : Nat} (hp : comeM (farM f) f c sel m p = partC f c sel m p q) : rl P (doneC f c sel m (p + 1)) = rl P (midC f c sel m p q) := by
  unfold rl
  apply List.map_congr_left
  intro y _
  unfold doneC midC
  by_cases e : y = p
  · subst e; rw [if_pos (by omega), if_neg (by omega), if_pos rfl, hp]
  · by_cases h : y < p
    · rw [if_pos (by omega), if_pos h]
    · rw [if_neg (by omega), if_neg h, if_neg e]
theorem done_skip {m p P : Nat} (hp : comeM (farM f) f c sel m p = 0) : rl P (doneC f c sel m (p + 1)) = rl P (doneC f c sel m p) := by
  unfold rl
  apply List.map_congr_left
  intro y _
  unfold doneC
  by_cases e : y = p
  · subst e; rw [if_pos (by omega), if_neg (by omega), hp]
  · by_cases h : y < p
    · rw [if_pos (by omega), if_pos h]
    · rw [if_neg (by omega), if_neg h]
theorem done_one {m p P : Nat} (X : Int) (hX : X = comeM (farM f) f c sel m p) : (rl P (doneC f c sel m p)).set p X = rl P (doneC f c sel m (p + 1)) := by
  rw [← rl_upd]
  congr 1
  funext y
  unfold upd1 doneC
  by_cases e : y = p
  · subst e; rw [if_pos rfl, if_pos (by omega), hX]
  · rw [if_neg e]
    by_cases h : y < p
    · rw [if_pos h, if_pos (by omega)]
    · rw [if_neg h, if_neg (by omega)]
theorem mid_done {m p P : Nat} (h0 : partC f c sel m p 0 = 0) : rl P (doneC f c sel m p) = rl P (midC f c sel m p 0) := by
  unfold rl
  apply List.map_congr_left
  intro y _
  unfold doneC midC
  by_cases h : y < p
  · rw [if_pos h, if_pos h]
  · rw [if_neg h, if_neg h]
    split
    · exact h0.symm
    · rfl
theorem done_set (m p q P : Nat) (X : Int) (hX : X = partC f c sel m p q) : (rl P (doneC f c sel m p)).set p X = rl P (midC f c sel m p q) := by
  rw [← rl_upd]
  congr 1
  funext y
  unfold upd1 midC doneC
  by_cases e : y = p
  · subst e; rw [if_pos rfl, if_neg (by omega), if_pos rfl, hX]
  · rw [if_neg e]
    by_cases h : y < p
    · rw [if_pos h, if_pos h]
    · rw [if_neg h, if_neg h, if_neg e]
theorem midC_at {m q : Nat} (p : Nat) : midC f c sel m p q p = partC f c sel m p q := by unfold midC; rw [if_neg (by omega), if_pos rfl]
theorem done_all {m P : Nat} (hP : f.pl.toNat = P) : rl P (doneC f c sel m P) = comeR f c sel m := by
  unfold comeR rl
  rw [hP]
  apply List.map_congr_left
  intro y hy
  unfold doneC
  rw [if_pos (List.mem_range.1 hy)]
theorem comeL_get {n m : Nat} (h : m < n) : (comeL f c sel n)[m]? = some (comeR f c sel m) := by unfold comeL; simp [h]
theorem comeL_next (n : Nat) : comeL f c sel (n + 1) = comeL f c sel n ++ [comeR f c sel n] := by unfold comeL; rw [List.range_succ]; simp
theorem comeL_len (n : Nat) : (comeL f c sel n).length = n := by simp [comeL]
theorem comeR_len (m : Nat) : (comeR f c sel m).length = f.pl.toNat := by simp [comeR, rl]
theorem comeR_get {m q : Nat} (h : q < f.pl.toNat) : (comeR f c sel m)[q]? = some (comeM (farM f) f c sel m q) := rl_get _ h
end
end Go.Proofs.YtpbpcplboikpcaaGreat

namespace Go.Proofs.YtpbpcplboikpcaaGreat
open Go Go.RowKit Go.Shelf
set_option linter.unusedVariables false
set_option linter.unusedSimpArgs false

/-- Rows of numbers that are the call's own, as a slice of slices. -/
def RowsV (w : World) (v : Value) (ls : List (List Int)) : Prop := ∃ A k xs B, v = .slice A ls.length k ∧ w.ownsRow B 42 1 (.slice A ls.length k) ls.length xs ∧ OwnRows w B xs ls
theorem RowsV.ext {w w' : World} {v : Value} {ls : List (List Int)} (h : RowsV w v ls) (hx : Ext w w') : RowsV w' v ls := by
  obtain ⟨A, k, xs, B, e, h1, h2⟩ := h
  exact ⟨A, k, xs, B, e, own_below h1 hx, h2.ext hx⟩
def ComePost (w : World) (f : Fg) (c : Ct) (sel : Int → Bool) (e : Ending) (w' : World) : Prop := ∃ v, e = .returned v ∧ Ext w w' ∧ RowsV w' v (comeL f c sel (f.mi.toNat + 1))
set_option maxRecDepth 100000 in
set_option maxHeartbeats 2000000 in
theorem refcome_any (v : Value) (f : Fg) (k : Nat) (c : Ct) (set : Nat) (w : World) (hf : RgR w v f (distL f)) (hs : f.sized) (hok : FogOK f) (hc : f.ct[k]? = some c) (hset : set < 4096) :
    Calls Tryz.prog 132 #[v, .int .i64 (k : Int), .int .i64 (set : Int)] w (ComePost w f c (selS set)) := by
  have hf' := hf
  obtain ⟨s, A4, c4, rfl, hr, hd⟩ := hf
  have HF := hid hf'
  clear hf'
  have HS := hid hs
  have HOK := hid hok
  have HC := hid hc
  have hkl := (List.getElem?_eq_some_iff.1 hc).1
  have hkl' : (k : Int) < (f.ct.length : Int) := by omega
  obtain ⟨P, hP⟩ : ∃ P : Nat, f.pl = P := ⟨f.pl.toNat, by have := hok.pl; omega⟩
  obtain ⟨M, hM⟩ : ∃ M : Nat, f.mi = M := ⟨f.mi.toNat, by have := hok.mi; omega⟩
  have hP8 : P ≤ 8 := by have := hok.pl; omega
  have hM8 : M ≤ 8 := by have := hok.mi; omega
  have HP : Hid (f.pl.toNat = P) := by unfold Hid; omega
  have HM : Hid (f.mi.toNat = M) := by unfold Hid; omega
  have hst : c.st.length ≤ 1000000 := by have := (hs.each c (mem_of_get hc)).1; omega
  obtain ⟨sel, hsel⟩ : ∃ sel, selS set = sel := ⟨_, rfl⟩
  have HSEL := hid hsel
  rw [hsel]
  clear hsel
  have hmk := fun w => run_make_row' (P := Tryz.prog) 42 3 (.int .i64 0) 8 Tryz.underlying42 infoInt rfl .i64 .i64 P (by omega) (by omega) w
  obtain ⟨W0, hW0⟩ : ∃ W0, w.alloc (.cells #[.int .i64 f.pl, .int .i64 f.mi, .slice s.a1 f.tr.length s.c1, .slice s.a2 f.bl.length s.c2, .slice s.a3 f.ct.length s.c3, .slice A4 (distL f).length c4] 37) = W0 := ⟨_, rfl⟩
  have hx0 : Ext w W0 := by rw [← hW0]; exact Ext.alloc (Ext.refl w) _
  obtain ⟨b0, o0, A5, k5, A6, k6, e1, g0, -, hI, -, -, -⟩ := (hr.ct.ext hx0).at_ hc
  have FX : Hid (∀ w', Ext W0 w' → w'.cell? ⟨w.heap.size, 0, none⟩ = some (.int .i64 f.pl) ∧ w'.cell? ⟨w.heap.size, 1, none⟩ = some (.int .i64 f.mi) ∧ w'.cell? ⟨w.heap.size, 2, none⟩ = some (.slice s.a1 f.tr.length s.c1) ∧ w'.cell? ⟨w.heap.size, 3, none⟩ = some (.slice s.a2 f.bl.length s.c2) ∧ w'.cell? ⟨w.heap.size, 4, none⟩ = some (.slice (some ⟨b0, o0, none⟩) f.ct.length s.c3) ∧ w'.cell? ⟨w.heap.size, 5, none⟩ = some (.slice A4 (distL f).length c4) ∧ w'.cell? ⟨b0, o0 + k * 2, none⟩ = some (.slice A5 c.st.length k5)) := fun w' h =>
    ⟨h.cell (by rw [← hW0]; simp [go_sem]), h.cell (by rw [← hW0]; simp [go_sem]), h.cell (by rw [← hW0]; simp [go_sem]), h.cell (by rw [← hW0]; simp [go_sem]), h.cell (by rw [← hW0]; simp [go_sem, e1]), h.cell (by rw [← hW0]; simp [go_sem]), h.cell g0⟩
  rw [hP, hM] at FX
  have HI := hid hI
  obtain ⟨q0, q1, q2, q3, q4, q5, g0'⟩ := FX.out W0 (Ext.refl _)
  have HV : Hid (rval s f (.slice A4 (distL f).length c4) = .agg #[.int .i64 (P : Int), .int .i64 (M : Int), .slice s.a1 f.tr.length s.c1, .slice s.a2 f.bl.length s.c2, .slice (some ⟨b0, o0, none⟩) f.ct.length s.c3, .slice A4 (distL f).length c4]) := by unfold Hid rval; rw [hP, hM, ← e1]
  rw [HV.out] at HF ⊢
  rw [hP, hM, e1] at hW0
  have hz0 : W0.heap.size = w.heap.size + 1 := by rw [← hW0]; simp
  clear hP hM hI g0 e1 hok hs hc g0'
  unfold ComePost
  rw [HM.out]
  go_enter Tryz.func132, Tryz.ntmps132
  go_wp2
  try rw [hW0]
  clear hW0 q0 q1 q2 q3 q4 q5
  go_loopw [7, 8] (fun i7 i8 wr => ∃ (m : Nat) (D : Option Addr) (kd : Nat) (xs : List Value), m ≤ M + 1 ∧ i8 = .int .i64 (m : Int) ∧ i7 = .slice D m kd ∧ Hid (wr.ownsRow (w.heap.size + 1) 42 1 (.slice D m kd) m xs) ∧ Hid (OwnRows wr (w.heap.size + 1) xs (comeL f c sel m)) ∧ Ext W0 wr) (fun _ i8 _ => M + 1 - (intOf i8).toNat)
  case atStart => exact ⟨0, none, 0, [], Nat.zero_le _, rfl, rfl, own_nil _ _ _ _, OwnRows.nil _ _, Ext.refl _⟩
  case round =>
    obtain ⟨m, D, kd, xs, hm, rfl, rfl, OD, OR, hx⟩ := hrel
    obtain ⟨q0, q1, q2, q3, q4, q5, -⟩ := FX.out wr hx
    by_cases hlt : m ≤ M
    · have hlt' : (m : Int) ≤ (M : Int) := by omega
      obtain ⟨V, hV⟩ : ∃ V : World, V = wr := ⟨_, rfl⟩
      subst hV
      obtain ⟨V2, hV2⟩ : ∃ V2, V.alloc (.cells (madeCells #[.int .i64 0] P) 3) = V2 := ⟨_, rfl⟩
      have hxV : Ext V V2 := by rw [← hV2]; exact Ext.alloc (Ext.refl _) _
      have HB : Hid (Nrow V2 V.heap.size (rl P (doneC f c sel m 0))) := by
        unfold Hid
        rw [show doneC f c sel m 0 = fun _ => 0 from rfl, rl_const, ← hV2, made_nrow]; exact World.alloc_heap_new _ _
      have hsv : w.heap.size + 1 ≤ V.heap.size := by rw [← hz0]; exact hx.size
      go_wp2
      try rw [hV2]
      clear hV2 q0 q1 q2 q3 q4 q5
      go_loopw [10, 11] (fun i10 i11 wr => ∃ p : Nat, p ≤ P ∧ i10 = .int .i64 (p : Int) ∧ Hid (Nrow wr V.heap.size (rl P (doneC f c sel m p))) ∧ Ext V wr) (fun i _ _ => P - (intOf i).toNat)
      case atStart => exact ⟨0, Nat.zero_le _, rfl, HB, hxV⟩
      case round =>
        obtain ⟨p, hp, rfl, HB, hxr⟩ := hrel
        by_cases hlp : p < P
        · have hlp' : (p : Int) < (P : Int) := by omega
          obtain ⟨q0, q1, q2, q3, q4, q5, -⟩ := FX.out wr (hx.trans hxr)
          have K := refagrees_any _ f k c set m p wr (HF.out.ext (hx0.trans (hx.trans hxr))) HOK.out HC.out hset (by rw [HP.out]; exact hlp)
          rw [HSEL.out] at K
          obtain ⟨AG, hAG⟩ : ∃ AG, agC (farM f) f c sel m p = AG := ⟨_, rfl⟩
          rw [hAG] at K
          have HAG := hid hAG
          have HK := hid K
          clear K hAG
          go_wp2_with fail
          clear q0 q1 q2 q3 q4 q5
          refine HK.out.mono ?_
          clear HK
          rintro e w2 ⟨rfl, hb2⟩
          have hx2 := hxr.trans hb2
          have HB := hid (HB.out.ext hb2)
          clear hb2 hxr
          cases AG
          case false =>
            have HB2 : Hid (Nrow w2 V.heap.size (rl P (doneC f c sel m (p + 1)))) := by
              unfold Hid
              rw [done_skip (by rw [come_part, HAG.out]; rfl)]
              exact HB.out
            clear HB
            go_wp2
            go_roundw
            case rel => exact ⟨p + 1, by omega, by go_num, HB2, hx2⟩
            case measure => simp [intOf]; omega
          have HCP : Hid (comeM (farM f) f c sel m p = partC f c sel m p P) := by unfold Hid; rw [come_part, HAG.out, if_pos rfl, HP.out]
          clear HAG
          obtain ⟨q0, q1, q2, q3, q4, q5, g0⟩ := FX.out w2 (hx.trans hx2)
          have hcp := HB.out.at_ (rl_get _ hlp)
          have hfz := HB.out.frozen p
          have HSET : Hid (∀ (q : Nat) (X : Int), X = partC f c sel m p q → (rl P (doneC f c sel m p)).set p X = rl P (midC f c sel m p q)) := fun q X hX => done_set m p q P X hX
          obtain ⟨BB, hBB⟩ : ∃ BB, (decide (m = 0) && memI (p : Int) c.st) = BB := ⟨_, rfl⟩
          have HBB := hid hBB
          have HPC : Hid (partC f c sel m p 0 = if BB then 1 else 0) := by
            unfold Hid
            rw [← hBB]
            by_cases hm0 : m = 0
            · rw [hm0]; simp [partC]
            · obtain ⟨m', rfl⟩ : ∃ m', m = m' + 1 := ⟨m - 1, by omega⟩
              simp [partC, sumN_zero]
          clear hBB
          go_upto_region 10 with fail
          go_cut [47] (fun s47 wx => s47 = .bool BB ∧ w2 = wx)
          case first =>
            by_cases hm0 : m = 0
            · have bm : ((m : Int) == 0) = true := by simp [hm0]
              have K := refhas_any A5 k5 c.st p w2 (HI.out.ext (hx.trans hx2)) hst
              rw [show memI (p : Int) c.st = BB by rw [← HBB.out]; simp [hm0]] at K
              have HK := hid K
              clear K hm0
              go_wp2_with fail
              refine HK.out.mono ?_
              clear HK
              rintro e w3 ⟨rfl, hw3⟩
              subst hw3
              go_wp2_with fail
              go_meet
              exact ⟨rfl, rfl⟩
            · have bm : ((m : Int) == 0) = false := by simp; omega
              have HE : Hid (BB = false) := by unfold Hid; rw [← HBB.out]; simp [hm0]
              clear hm0
              go_wp2_with fail
              go_meet
              exact ⟨by rw [HE.out], rfl⟩
          case rest =>
          clear q0 q1 q2 q3 q4 q5 g0
          obtain ⟨rfl, hwc⟩ := hcut
          subst hwc
          go_upto_if 47 with fail
          go_cut [] (fun wx => Hid (Nrow wx V.heap.size (rl P (midC f c sel m p 0))) ∧ Ext V wx)
          case first =>
            cases BB
            · go_wp2_with fail
              go_meet
              exact ⟨by unfold Hid; rw [← mid_done (by rw [HPC.out]; rfl)]; exact HB.out, hx2⟩
            · go_wp2_with fail
              go_meet
              exact ⟨by
                unfold Hid
                have h := HB.out.set p 1
                rw [HSET.out 0 1 (by rw [HPC.out]; rfl)] at h
                exact h, hx2.setCell (Nat.le_refl _) _⟩
          case rest =>
            clear hcp hfz HB hx2
            obtain ⟨HB, hx2⟩ := hcut
            obtain ⟨w4, hw4⟩ : ∃ w4, w4 = wc := ⟨_, rfl⟩
            subst hw4
            go_wp2
            go_loopw [11] (fun i11 wr => ∃ q : Nat, q ≤ P ∧ i11 = .int .i64 (q : Int) ∧ Hid (Nrow wr V.heap.size (rl P (midC f c sel m p q))) ∧ Hid (m = 0 → q = 0) ∧ Ext V wr) (fun i _ => P - (intOf i).toNat)
            case atStart => exact ⟨0, Nat.zero_le _, rfl, HB, fun _ => rfl, hx2⟩
            case round =>
              obtain ⟨q, hq, rfl, HB, HM0, hxq⟩ := hrel
              by_cases hlq : q < P
              · have hlq' : (q : Int) < (P : Int) := by omega
                by_cases hm0 : m = 0
                · have bm : ¬ (0 : Int) < (m : Int) := by omega
                  have hq0 := HM0.out hm0
                  have HE : Hid (partC f c sel m p P = partC f c sel m p q) := by unfold Hid; rw [hm0]; rfl
                  have HB2 : Hid (Nrow wr V.heap.size (rl P (doneC f c sel m (p + 1)))) := by
                    unfold Hid
                    rw [done_mid (q := q) (by rw [HCP.out, HE.out])]
                    exact HB.out
                  clear HB hq0 hm0
                  go_wp2
                  go_roundw
                  case rel => exact ⟨p + 1, by omega, by go_num, HB2, hxq⟩
                  case measure => simp [intOf]; omega
                · have bm : (0 : Int) < (m : Int) := by omega
                  obtain ⟨m', hm'⟩ : ∃ m', m = m' + 1 := ⟨m - 1, by omega⟩
                  obtain ⟨q0, q1, q2, q3, q4, q5, -⟩ := FX.out wr (hx.trans hxq)
                  have K := refbeside_any _ f (distL f) q p wr (HF.out.ext (hx0.trans (hx.trans hxq))) HS.out
                  obtain ⟨BS, hBS⟩ : ∃ BS, besideB f (q : Int) (p : Int) = BS := ⟨_, rfl⟩
                  rw [hBS] at K
                  have HBS : Hid (BS = decide (farM f q p ≤ 1)) := by unfold Hid; rw [← hBS]; exact besideB_far HOK.out (by omega) (by omega)
                  have HK := hid K
                  have HNX : Hid (partC f c sel m p (q + 1) = partC f c sel m p q + hC f c sel m' p q) := by unfold Hid; rw [hm']; exact partC_next m' p q
                  have HCQ : Hid (hC f c sel m' p q = if BS then comeM (farM f) f c sel m' q else 0) := by
                    unfold Hid hC
                    rw [HBS.out]
                    by_cases hh : farM f q p ≤ 1
                    · rw [if_pos hh, if_pos (by simpa using hh)]
                    · rw [if_neg hh, if_neg (by simpa using hh)]
                  have hm2 : m' < m := by omega
                  have hm1 : (m : Int) - 1 = (m' : Int) := by omega
                  clear K hBS hm0 HBS hm'
                  go_wp2_with fail
                  clear q0 q1 q2 q3 q4 q5
                  refine HK.out.mono ?_
                  clear HK
                  rintro e w5 ⟨rfl, hb5⟩
                  have HB := hid (HB.out.ext hb5)
                  have hx5 := hxq.trans hb5
                  clear hb5 hxq
                  cases BS
                  · have HB2 : Hid (Nrow w5 V.heap.size (rl P (midC f c sel m p (q + 1)))) := by
                      unfold Hid
                      have e : midC f c sel m p (q + 1) = midC f c sel m p q := by
                        funext y
                        unfold midC
                        rw [HNX.out, HCQ.out]; simp
                      rw [e]; exact HB.out
                    clear HB
                    go_wp2
                    go_roundw
                    case rel => exact ⟨q + 1, by omega, by go_num, HB2, fun h => absurd h (by omega), hx5⟩
                    case measure => simp [intOf]; omega
                  · obtain ⟨bd, od, A9, k9, e9, g9, hI9, -⟩ := ((OR.out.ints OD.out).ext hx5).at_ (comeL_get (show m' < m by omega))
                    obtain ⟨b8, o8, e8, g8⟩ := hI9.at_ (comeR_get (f := f) (c := c) (sel := sel) (m := m') (q := q) (by rw [HP.out]; exact hlq))
                    rw [comeR_len, HP.out] at g9
                    have hcm := (midC_at (f := f) (c := c) (sel := sel) (m := m) (q := q) p)
                    have hcp := HB.out.at_ (rl_get _ hlp)
                    rw [hcm] at hcp
                    have hfz := HB.out.frozen p
                    have hbd1 := partC_bd (c := c) (sel := sel) HOK.out (show m ≤ 8 by omega) p q (by omega)
                    have hbd2 := come_bd (c := c) (sel := sel) HOK.out (show m' ≤ 8 by omega) q
                    have HSX : Hid (∀ X, X = partC f c sel m p q + comeM (farM f) f c sel m' q → Nrow (w5.setCell ⟨V.heap.size, p, none⟩ (.int .i64 X)) V.heap.size (rl P (midC f c sel m p (q + 1)))) := fun X hX => by
                      have h := HB.out.set p X
                      rw [mid_setC m p q (q + 1) P X (by rw [hX, HNX.out, HCQ.out, if_pos rfl])] at h
                      exact h
                    obtain ⟨X1, hX1⟩ : ∃ X, partC f c sel m p q = X := ⟨_, rfl⟩
                    obtain ⟨X2, hX2⟩ : ∃ X, comeM (farM f) f c sel m' q = X := ⟨_, rfl⟩
                    rw [hX1] at hcp hbd1 HSX
                    rw [hX2] at g8 hbd2 HSX
                    have hmm : (m' : Int) < (m : Int) := by omega
                    subst e9
                    subst e8
                    clear hX1 hX2 hcm hI9 HCQ HNX
                    go_wp2
                    go_region
                    all_goals go_wp2
                    have HNE := hid (Nrow.ext (HSX.out (X1 + X2) rfl) (Ext.drew (Ext.refl _)))
                    have hxe : Ext V (w5.setCell ⟨V.heap.size, p, none⟩ (.int .i64 (X1 + X2))).drew := (hx5.setCell (Nat.le_refl _) _).trans (Ext.drew (Ext.refl _))
                    go_roundw
                    case rel => exact ⟨q + 1, by omega, by go_num, HNE, fun h => absurd h (by omega), hxe⟩
                    case measure => simp [intOf]; omega
              · have hlq' : ¬ (q : Int) < (P : Int) := by omega
                have HB2 : Hid (Nrow wr V.heap.size (rl P (doneC f c sel m (p + 1)))) := by
                  unfold Hid
                  rw [done_mid (q := q) (by rw [HCP.out, show q = P by omega])]
                  exact HB.out
                clear HB
                go_wp2
                go_roundw
                case rel => exact ⟨p + 1, by omega, by go_num, HB2, hxq⟩
                case measure => simp [intOf]; omega
        · have hlp' : ¬ (p : Int) < (P : Int) := by omega
          have HB2 : Hid (Nrow wr V.heap.size (comeR f c sel m)) := by
            unfold Hid
            have h := HB.out
            rw [show p = P by omega, done_all HP.out] at h
            exact h
          have HLN : Hid ((comeR f c sel m).length = P) := by unfold Hid; rw [comeR_len, HP.out]
          clear HB
          obtain ⟨U, hU⟩ : ∃ V : World, V = wr := ⟨_, rfl⟩
          subst hU
          obtain ⟨W5, hW5⟩ : ∃ W5, U.alloc (.cells #[.slice (some ⟨V.heap.size, 0, none⟩) P P] 42) = W5 := ⟨_, rfl⟩
          have hx5 : Ext U W5 := by rw [← hW5]; exact Ext.alloc (Ext.refl _) _
          have HRD : Hid (Rd W5 (some ⟨U.heap.size, 0, none⟩) [.slice (some ⟨V.heap.size, 0, none⟩) P P]) := .inr ⟨U.heap.size, 0, rfl, fun j u hu => by
            match j, hu with
            | 0, hu => cases hu; rw [← hW5]; simp [go_sem]
            | j + 1, hu => simp at hu⟩
          have OD5 := hid (own_below OD.out (hxr.trans hx5))
          have OR5 := hid (OR.out.ext (hxr.trans hx5))
          have OA5 := hid (Nrow.own (base := w.heap.size + 1) (HB2.out.ext hx5) hsv HLN.out (by simp only [maxLen]; omega))
          have hsz5 : w.heap.size + 1 ≤ W5.heap.size := by have := (hxr.trans hx5).size; omega
          have hxw5 := hid (hx.trans (hxr.trans hx5))
          have hnb : (m + 1) * 24 ≤ 140737488355328 := by omega
          clear OD OR HB2 hxr hx
          go_wp2_with (at_builtin; (try rw [hW5]); refine wpList_append_rd2 _ rfl _ _ 35 rfl elem_ints (w.heap.size + 1) _ m xs rfl OD5.out (some ⟨U.heap.size, 0, none⟩) 1 1 [.slice (some ⟨V.heap.size, 0, none⟩) P P] rfl rfl HRD.out (by intro u hu; simp at hu; subst hu; rfl) hnb hsz5 ?_)
          intro D6 k7 W6 own6 hbel6 hgr6 hloc6
          have hS6 : BelS (fun g => (Value.slice D m kd).ownBlock = some g) W5 W6 := (BelS.refl _ W5).grown hgr6 (fun g e => e)
          have hD6 : ∀ g, (Value.slice D m kd).ownBlock = some g → ∃ cs T, W5.heap[g]? = some (.cells cs T (0, 0)) ∧ T ≠ 3 := fun g hg => by
            obtain ⟨cur, hc⟩ := own_blk OD5.out hg
            exact ⟨cur, _, hc, by decide⟩
          have OA6 := hS6.own OA5.out (fun g hg hs => by obtain ⟨cs, T, hh, hne⟩ := hD6 g hs; exact own_ne OA5.out hh hne hg)
          have OR7 : Hid (OwnRows W6 (w.heap.size + 1) (xs ++ [.slice (some ⟨V.heap.size, 0, none⟩) P P]) (comeL f c sel (m + 1))) := by
            unfold Hid
            rw [comeL_next]
            have hl := HLN.out
            have := (OR5.out.keep hS6 hD6).snoc (l := comeR f c sel m) (A := some ⟨V.heap.size, 0, none⟩) (k := P) (by rw [hl]; exact OA6)
            rw [hl] at this
            exact this
          have hxw6 : Ext W0 W6 := Ext.grown hxw5.out hgr6 (fun k e => by have := (OD5.out.lt k e).1; omega)
          have OD6 := hid own6
          clear own6 hloc6 hgr6 hbel6 hS6 hD6 OA6 OR5 OA5 OD5 hxw5 hsz5 HRD
          go_wp2
          go_roundw
          case rel => exact ⟨m + 1, D6, k7, _, by omega, by go_num, rfl, OD6, OR7, hxw6⟩
          case measure => simp [intOf]; omega
    · have hlt' : ¬ (m : Int) ≤ (M : Int) := by omega
      have hmM : m = M + 1 := by omega
      subst hmM
      have hres : RowsV wr (.slice D (M + 1) kd) (comeL f c sel (M + 1)) := ⟨D, kd, xs, _, by rw [comeL_len], by rw [comeL_len]; exact OD.out, OR.out⟩
      have HRES := hid hres
      clear hres OD OR
      go_wp2
      go_ret
      exact ⟨_, rfl, hx0.trans hx, HRES.out⟩
end Go.Proofs.YtpbpcplboikpcaaGreat

namespace Go.Proofs.YtpbpcplboikpcaaGreat
open Go Go.RowKit Go.Shelf
set_option linter.unusedVariables false
set_option linter.unusedSimpArgs false

/-- Rows of numbers as a slice that is not nil. -/
def RowsC (w : World) (v : Value) (ls : List (List Int)) (n : Nat) : Prop := ∃ g k, v = .slice (some ⟨g, 0, none⟩) n k ∧ IntRows w (some ⟨g, 0, none⟩) ls
theorem RowsC.ext {w w' : World} {v : Value} {ls : List (List Int)} {n : Nat} (h : RowsC w v ls n) (hx : Ext w w') : RowsC w' v ls n := by
  obtain ⟨g, k, e, h1⟩ := h
  exact ⟨g, k, e, h1.ext hx⟩
theorem rows_cells {w : World} {v : Value} {f : Fg} {c : Ct} {sel : Int → Bool} {n : Nat} (h : RowsV w v (comeL f c sel (n + 1))) : RowsC w v (comeL f c sel (n + 1)) (n + 1) := by
  obtain ⟨A, k, xs, B, e, h1, h2⟩ := h
  rw [comeL_len] at e h1
  have h3 := h2.ints h1
  rcases h1.2 with ⟨_, h⟩ | ⟨g, cap, cur, e1, _⟩
  · omega
  · cases e1
    exact ⟨g, _, e, h3⟩
set_option maxRecDepth 100000 in
set_option maxHeartbeats 2000000 in
theorem refcount_any (v : Value) (f : Fg) (k : Nat) (c : Ct) (set : Nat) (w : World) (hf : RgR w v f (distL f)) (hs : f.sized) (hok : FogOK f) (hc : f.ct[k]? = some c) (hset : set < 4096) :
    Calls Tryz.prog 36 #[v, .int .i64 (k : Int), .int .i64 (set : Int)] w fun e w' => e = .returned (.int .i64 (countM (farM f) f c (selS set))) ∧ Ext w w' := by
  have hcm := mem_of_get hc
  obtain ⟨s, A4, c4, rfl, hr, hd⟩ := hf
  have HS := hid hs
  have HOK := hid hok
  have HC := hid hc
  have hkl := (List.getElem?_eq_some_iff.1 hc).1
  obtain ⟨P, hP⟩ : ∃ P : Nat, f.pl = P := ⟨f.pl.toNat, by have := hok.pl; omega⟩
  obtain ⟨M, hM⟩ : ∃ M : Nat, f.mi = M := ⟨f.mi.toNat, by have := hok.mi; omega⟩
  have hP8 : P ≤ 8 := by have := hok.pl; omega
  have hM8 : M ≤ 8 := by have := hok.mi; omega
  have HP : Hid (f.pl.toNat = P) := by unfold Hid; omega
  have HM : Hid (f.mi.toNat = M) := by unfold Hid; omega
  have HF : Hid (∀ w', Ext w w' → RgR w' (.agg #[.int .i64 (P : Int), .int .i64 (M : Int), .slice s.a1 f.tr.length s.c1, .slice s.a2 f.bl.length s.c2, .slice s.a3 f.ct.length s.c3, .slice A4 (distL f).length c4]) f (distL f)) := fun w' h => ⟨s, A4, c4, by unfold rval; rw [hP, hM], hr.ext h, hd.ext h⟩
  obtain ⟨W0, hW0⟩ : ∃ W0, w.alloc (.cells #[.int .i64 (P : Int), .int .i64 (M : Int), .slice s.a1 f.tr.length s.c1, .slice s.a2 f.bl.length s.c2, .slice s.a3 f.ct.length s.c3, .slice A4 (distL f).length c4] 37) = W0 := ⟨_, rfl⟩
  have hx0 : Ext w W0 := by rw [← hW0]; exact Ext.alloc (Ext.refl w) _
  have FX : Hid (∀ w', Ext W0 w' → w'.cell? ⟨w.heap.size, 0, none⟩ = some (.int .i64 (P : Int)) ∧ w'.cell? ⟨w.heap.size, 1, none⟩ = some (.int .i64 (M : Int)) ∧ w'.cell? ⟨w.heap.size, 2, none⟩ = some (.slice s.a1 f.tr.length s.c1) ∧ w'.cell? ⟨w.heap.size, 3, none⟩ = some (.slice s.a2 f.bl.length s.c2) ∧ w'.cell? ⟨w.heap.size, 4, none⟩ = some (.slice s.a3 f.ct.length s.c3) ∧ w'.cell? ⟨w.heap.size, 5, none⟩ = some (.slice A4 (distL f).length c4)) := fun w' h => ⟨h.cell (by rw [← hW0]; simp [go_sem]), h.cell (by rw [← hW0]; simp [go_sem]), h.cell (by rw [← hW0]; simp [go_sem]), h.cell (by rw [← hW0]; simp [go_sem]), h.cell (by rw [← hW0]; simp [go_sem]), h.cell (by rw [← hW0]; simp [go_sem])⟩
  have HV : Hid (rval s f (.slice A4 (distL f).length c4) = .agg #[.int .i64 (P : Int), .int .i64 (M : Int), .slice s.a1 f.tr.length s.c1, .slice s.a2 f.bl.length s.c2, .slice s.a3 f.ct.length s.c3, .slice A4 (distL f).length c4]) := by unfold Hid rval; rw [hP, hM]
  rw [HV.out]
  clear hP hM hok hs hc HV
  obtain ⟨N, hN⟩ : ∃ N, countM (farM f) f c (selS set) = N := ⟨_, rfl⟩
  have HN : Hid (N = sumN P (comeM (farM f) f c (selS set) M)) := by
    unfold Hid
    rw [← hN, count_come HOK.out hcm, HP.out, HM.out]
  rw [hN]
  clear hN hcm
  have hmm1 : (M : Int) < (M : Int) + 1 := by omega
  go_enter Tryz.func36, Tryz.ntmps36
  go_wp2_with fail
  try rw [hW0]
  clear hW0
  refine wp_region_shut Ext (fun w' => Ext W0 w') (fun
    | 3 => some (fun v w' => RowsC w' v (comeL f c (selS set) (M + 1)) (M + 1))
    | 7 => some (fun v w' => ∃ g A' k', v = .pointer (some ⟨g, M, none⟩) ∧ w'.cell? ⟨g, M, none⟩ = some (.slice A' P k') ∧ Ints w' A' (comeR f c (selS set) M))
    | 8 => some (fun v w' => ∃ A' k', v = .slice A' P k' ∧ Ints w' A' (comeR f c (selS set) M))
    | _ => none) (by kernel_rfl) (by kernel_rfl) (fun _ _ h k => h.trans k) ?hT (Ext.drew (Ext.refl W0)) ?_
  case hT =>
    intro i R hR
    match i, hR with
    | 3, hR => cases hR; exact fun _ _ _ h k => h.ext k
    | 7, hR => cases hR; exact fun _ _ _ ⟨g, A', k', e, h1, h⟩ k => ⟨g, A', k', e, k.cell h1, h.ext k⟩
    | 8, hR => cases hR; exact fun _ _ _ ⟨A', k', e, h⟩ k => ⟨A', k', e, h.ext k⟩
  refine wM_val ?ua0 rfl rfl Ext.refl (fun w' hD => ?ha0) (fun pha0 => ?na0)
  case ha0 =>
    obtain ⟨d0, d1, d2, d3, d4, d5⟩ := FX.out w' hD.1
    go_simp; rfl
  simp only [Act.put, List.setIfInBounds_toArray, List.set_cons_succ, List.set_cons_zero, Nat.reduceAdd]
  refine wM_val ?ua1 rfl rfl Ext.refl (fun w' hD => ?ha1) (fun pha1 => ?na1)
  case ha1 =>
    obtain ⟨d0, d1, d2, d3, d4, d5⟩ := FX.out w' hD.1
    go_simp; rfl
  simp only [Act.put, List.setIfInBounds_toArray, List.set_cons_succ, List.set_cons_zero, Nat.reduceAdd]
  refine wM_val ?ua2 rfl rfl Ext.refl (fun w' hD => ?ha2) (fun pha2 => ?na2)
  case ha2 =>
    obtain ⟨d0, d1, d2, d3, d4, d5⟩ := FX.out w' hD.1
    go_simp; rfl
  simp only [Act.put, List.setIfInBounds_toArray, List.set_cons_succ, List.set_cons_zero, Nat.reduceAdd]
  refine wM_op _ rfl rfl (opens_call ?fa3 ?ga3 (fun w' hD => ?ha3) (fun w' hD => ?ca3)) (fun v3 hv3 => ?na3)
  case ha3 => go_simp; constructor <;> rfl
  case ca3 =>
    refine (refcome_any _ f k c set w' (HF.out w' (hx0.trans hD.1)) HS.out HOK.out HC.out hset).mono ?_
    rintro e w2 ⟨v, rfl, hb, hv⟩
    rw [HM.out] at hv
    exact ⟨_, rfl, hb, rows_cells hv⟩
  obtain ⟨_, -, -, gc, kc, rfl, -⟩ := hv3
  simp only [Act.put, List.setIfInBounds_toArray, List.set_cons_succ, List.set_cons_zero, Nat.reduceAdd]
  refine wM_val ?ua4 rfl rfl Ext.refl (fun w' hD => ?ha4) (fun pha4 => ?na4)
  case ha4 =>
    obtain ⟨d0, d1, d2, d3, d4, d5⟩ := FX.out w' hD.1
    go_simp; rfl
  simp only [Act.put, List.setIfInBounds_toArray, List.set_cons_succ, List.set_cons_zero, Nat.reduceAdd]
  refine wM_val ?ua5 rfl rfl Ext.refl (fun w' hD => ?ha5) (fun pha5 => ?na5)
  case ha5 =>
    obtain ⟨d0, d1, d2, d3, d4, d5⟩ := FX.out w' hD.1
    go_simp; rfl
  simp only [Act.put, List.setIfInBounds_toArray, List.set_cons_succ, List.set_cons_zero, Nat.reduceAdd]
  refine wM_val ?ua6 rfl rfl Ext.refl (fun w' hD => ?ha6) (fun pha6 => ?na6)
  case ha6 =>
    obtain ⟨d0, d1, d2, d3, d4, d5⟩ := FX.out w' hD.1
    go_simp; rfl
  simp only [Act.put, List.setIfInBounds_toArray, List.set_cons_succ, List.set_cons_zero, Nat.reduceAdd]
  refine wM_op _ rfl rfl (opens_val (fun w' hD => ?ha7)) (fun v7 hv7 => ?na7)
  case ha7 =>
    obtain ⟨_, gc', kc', e1, h1⟩ := hD.get 3 (by first | kernel_rfl | simp [Region.binds])
    cases e1
    obtain ⟨bb, oo, A', k', e2, h2, h3, -⟩ := h1.at_ (comeL_get (f := f) (c := c) (sel := selS set) (Nat.lt_succ_self M))
    cases e2
    rw [comeR_len, HP.out, Nat.zero_add] at h2
    refine ⟨.pointer (some ⟨gc, M, none⟩), w', ?_, Ext.refl _, ⟨gc, A', k', rfl, h2, h3⟩⟩
    go_simp
  obtain ⟨_, _, _, g7, A7, k7, e7, _⟩ := hv7
  cases e7
  simp only [Act.put, List.setIfInBounds_toArray, List.set_cons_succ, List.set_cons_zero, Nat.reduceAdd]
  refine wM_op _ rfl rfl (opens_val (fun w' hD => ?ha8)) (fun v8 hv8 => ?na8)
  case ha8 =>
    obtain ⟨_, g7', A', k', e1, h2, h3⟩ := hD.get 7 (by first | kernel_rfl | simp [Region.binds])
    cases e1
    refine ⟨.slice A' P k', w', ?_, Ext.refl _, ⟨A', k', rfl, h3⟩⟩
    go_simp
  obtain ⟨_, _, _, A8, k8, rfl, _⟩ := hv8
  simp only [Act.put, List.setIfInBounds_toArray, List.set_cons_succ, List.set_cons_zero, Nat.reduceAdd]
  refine wM_val ?ua9 rfl rfl Ext.refl (fun w' hD => ?ha9) (fun pha9 => ?na9)
  case ha9 =>
    obtain ⟨d0, d1, d2, d3, d4, d5⟩ := FX.out w' hD.1
    go_simp; rfl
  simp only [Act.put, List.setIfInBounds_toArray, List.set_cons_succ, List.set_cons_zero, Nat.reduceAdd]
  refine wM_nil ?_
  intro w9 hw9 hF9
  obtain ⟨-, A8', k8', e8, hI⟩ := hF9 8
  cases e8
  clear hF9
  have HI := hid hI
  have hxw : Ext w w9 := hx0.trans hw9
  clear hI
  go_wp2
  go_loopw [9, 8] (fun i9 i8 wr => ∃ p : Nat, p ≤ P ∧ i9 = .int .i64 (p : Int) ∧ (∃ X, i8 = .int .i64 X ∧ Hid (X = sumN p (comeM (farM f) f c (selS set) M)) ∧ 0 ≤ X ∧ X ≤ 16777216 * p) ∧ w9 = wr) (fun i _ _ => P - (intOf i).toNat)
  case atStart => exact ⟨0, Nat.zero_le _, rfl, ⟨0, rfl, rfl, by omega, by omega⟩, rfl⟩
  case round =>
    obtain ⟨p, hp, rfl, ⟨X, rfl, HX, hX0, hX1⟩, rfl⟩ := hrel
    by_cases hlp : p < P
    · have hlp' : (p : Int) < (P : Int) := by omega
      obtain ⟨b8, o8, e8, g8⟩ := HI.out.at_ (comeR_get (f := f) (c := c) (sel := selS set) (m := M) (q := p) (by rw [HP.out]; exact hlp))
      have hbd := come_bd (c := c) (sel := selS set) HOK.out hM8 p
      have HX2 : Hid (X + comeM (farM f) f c (selS set) M p = sumN (p + 1) (comeM (farM f) f c (selS set) M)) := by unfold Hid; rw [sumN_succ, HX.out]
      generalize comeM (farM f) f c (selS set) M p = Y at g8 hbd HX2
      subst e8
      go_wp2
      go_roundw
      case rel => exact ⟨p + 1, by omega, by go_num, ⟨X + Y, rfl, HX2, by omega, by omega⟩, by first | rfl | trivial⟩
      case measure => simp [intOf]; omega
    · have hlp' : ¬ (p : Int) < (P : Int) := by omega
      have H : Hid (N = X) := by unfold Hid; rw [HN.out, HX.out, show p = P by omega]
      go_wp2
      go_ret
      exact ⟨ret_of (int_of H.out.symm), hxw⟩
end Go.Proofs.YtpbpcplboikpcaaGreat

namespace Go.Proofs.YtpbpcplboikpcaaGreat
open Go Go.RowKit
set_option linter.unusedVariables false
set_option linter.unusedSimpArgs false

section
variable (f : Fg) (c : Ct) (M : Nat)
/-- The places of a minute. -/
def rcM (m : Nat) : List Nat := refCan (farM f) f c (M - m)
def onR (m p : Nat) : Bool := if m = M then true else (rcM f c M (m + 1)).any fun q => decide (farM f p q ≤ 1)
def rcP (m p : Nat) : List Nat := (List.range p).filter fun x => onR f c M m x && decide (0 < comeM (farM f) f c allF m x)
def onQ (m p q : Nat) : Bool := if m = M then true else (List.range q).any fun x => memI (x : Int) (natI (rcM f c M (m + 1))) && decide (farM f p x ≤ 1)
end
section
variable {f : Fg} {c : Ct} {M : Nat}
theorem rcM_is (hM : f.mi.toNat = M) {m : Nat} (hm : m ≤ M) : rcM f c M m = rcP f c M m f.pl.toNat := by
  by_cases e : m = M
  · subst e
    unfold rcM rcP
    rw [Nat.sub_self]
    unfold refCan
    rw [hM]
    refine List.filter_congr fun p _ => ?_
    simp [onR]
  · have h1 : M - m = (M - (m + 1)) + 1 := by omega
    unfold rcP
    conv => lhs; unfold rcM; rw [h1]; unfold refCan
    refine List.filter_congr fun p _ => ?_
    rw [hM, show M - (M - (m + 1) + 1) = m by omega]
    unfold onR rcM
    rw [if_neg e]
theorem rcM_mem (hM : f.mi.toNat = M) {m : Nat} (hm : m ≤ M) {p : Nat} (h : p ∈ rcM f c M m) : p < f.pl.toNat := by
  rw [rcM_is hM hm] at h
  exact List.mem_range.1 (List.mem_filter.1 h).1
theorem rcP_succ (m p : Nat) : rcP f c M m (p + 1) = rcP f c M m p ++ if onR f c M m p && decide (0 < comeM (farM f) f c allF m p) then [p] else [] := by
  unfold rcP
  rw [List.range_succ, List.filter_append]
  congr 1
  simp only [List.filter_cons, List.filter_nil]
theorem rcP_len (m p : Nat) : (rcP f c M m p).length ≤ p := Nat.le_trans (List.length_filter_le _ _) (by simp)
theorem onQ_top (p q : Nat) : onQ f c M M p q = true := by simp [onQ]
theorem onQ_zero {m : Nat} (hm : m ≠ M) (p : Nat) : onQ f c M m p 0 = false := by simp [onQ, hm]
theorem onQ_succ {m : Nat} (hm : m ≠ M) (p q : Nat) : onQ f c M m p (q + 1) = (onQ f c M m p q || (memI (q : Int) (natI (rcM f c M (m + 1))) && decide (farM f p q ≤ 1))) := by
  unfold onQ
  rw [if_neg hm, if_neg hm, List.range_succ, List.any_append]
  simp
theorem onQ_all (hM : f.mi.toNat = M) {m : Nat} (hm : m ≤ M) (p : Nat) : onQ f c M m p f.pl.toNat = onR f c M m p := by
  unfold onQ onR
  by_cases e : m = M
  · rw [if_pos e, if_pos e]
  · rw [if_neg e, if_neg e, Bool.eq_iff_iff]
    simp only [List.any_eq_true, List.mem_range, Bool.and_eq_true, decide_eq_true_eq, mem_memI, natI, List.mem_map]
    constructor
    · rintro ⟨x, hx, ⟨y, hy, hxy⟩, hg⟩
      obtain rfl : y = x := by omega
      exact ⟨y, hy, hg⟩
    · rintro ⟨x, hx, hg⟩
      exact ⟨x, rcM_mem hM (by omega) hx, ⟨x, hx, rfl⟩, hg⟩
theorem rc_can (hM : f.mi.toNat = M) {m : Nat} (hm : m ≤ M) : rcM f c M m = canN (farM f) f c m := by
  subst hM
  exact refCan_is hm
theorem canR_get (hM : f.mi.toNat = M) {m : Nat} (hm : m ≤ M) : (canL (farM f) f c)[m]? = some (natI (rcM f c M m)) := by
  rw [rc_can hM hm]
  unfold canL
  rw [hM]
  simp [show m < M + 1 by omega]
theorem canR_len (hM : f.mi.toNat = M) : (canL (farM f) f c).length = M + 1 := by unfold canL; simp [hM]
end
end Go.Proofs.YtpbpcplboikpcaaGreat

namespace Go.Proofs.YtpbpcplboikpcaaGreat
open Go Go.RowKit Go.Shelf
set_option linter.unusedVariables false
set_option linter.unusedSimpArgs false

/-- The rows of the minutes from n0 on are laid. -/
structure OutR (f : Fg) (c : Ct) (M : Nat) (W : World) (O n0 : Nat) (rows : List Value) (w : World) : Prop where
  blk : OutB w O rows
  len : rows.length = M + 1
  old : ∀ i, n0 ≤ i → i < M + 1 → ∃ A k, rows[i]? = some (.slice A (rcM f c M i).length k) ∧ Ints w A (natI (rcM f c M i)) ∧ NotIn O A ∧ (rcM f c M i).length ≤ k
  new : ∀ i, i < n0 → rows[i]? = some (.slice none 0 0)
  ext : Ext W w
def RefCanPost (w : World) (f : Fg) (c : Ct) (e : Ending) (w' : World) : Prop := ∃ A k, e = .returned (.slice (some A) (f.mi.toNat + 1) k) ∧ Ext w w' ∧ IntRows w' (some A) (canL (farM f) f c) ∧ f.mi.toNat + 1 ≤ k
set_option maxRecDepth 100000 in
set_option maxHeartbeats 4000000 in
theorem refcan_any (v : Value) (f : Fg) (k : Nat) (c : Ct) (w : World) (hf : RgR w v f (distL f)) (hs : f.sized) (hok : FogOK f) (hc : f.ct[k]? = some c) :
    Calls Tryz.prog 38 #[v, .int .i64 (k : Int)] w (RefCanPost w f c) := by
  have h8 := hok.rn c (mem_of_get hc)
  obtain ⟨s, A4, c4, rfl, hr, hd⟩ := hf
  have HS := hid hs
  have HOK := hid hok
  have HC := hid hc
  have hkl := (List.getElem?_eq_some_iff.1 hc).1
  obtain ⟨P, hP⟩ : ∃ P : Nat, f.pl = P := ⟨f.pl.toNat, by have := hok.pl; omega⟩
  obtain ⟨M, hM⟩ : ∃ M : Nat, f.mi = M := ⟨f.mi.toNat, by have := hok.mi; omega⟩
  have hP8 : P ≤ 8 := by have := hok.pl; omega
  have hM8 : M ≤ 8 := by have := hok.mi; omega
  have HP : Hid (f.pl.toNat = P) := by unfold Hid; omega
  have HM : Hid (f.mi.toNat = M) := by unfold Hid; omega
  have HF : Hid (∀ w', Ext w w' → RgR w' (.agg #[.int .i64 (P : Int), .int .i64 (M : Int), .slice s.a1 f.tr.length s.c1, .slice s.a2 f.bl.length s.c2, .slice s.a3 f.ct.length s.c3, .slice A4 (distL f).length c4]) f (distL f)) := fun w' h => ⟨s, A4, c4, by unfold rval; rw [hP, hM], hr.ext h, hd.ext h⟩
  obtain ⟨W0, hW0⟩ : ∃ W0, w.alloc (.cells #[.int .i64 (P : Int), .int .i64 (M : Int), .slice s.a1 f.tr.length s.c1, .slice s.a2 f.bl.length s.c2, .slice s.a3 f.ct.length s.c3, .slice A4 (distL f).length c4] 37) = W0 := ⟨_, rfl⟩
  have hx0 : Ext w W0 := by rw [← hW0]; exact Ext.alloc (Ext.refl w) _
  have FX : Hid (∀ w', Ext W0 w' → w'.cell? ⟨w.heap.size, 0, none⟩ = some (.int .i64 (P : Int)) ∧ w'.cell? ⟨w.heap.size, 1, none⟩ = some (.int .i64 (M : Int)) ∧ w'.cell? ⟨w.heap.size, 2, none⟩ = some (.slice s.a1 f.tr.length s.c1) ∧ w'.cell? ⟨w.heap.size, 3, none⟩ = some (.slice s.a2 f.bl.length s.c2) ∧ w'.cell? ⟨w.heap.size, 4, none⟩ = some (.slice s.a3 f.ct.length s.c3) ∧ w'.cell? ⟨w.heap.size, 5, none⟩ = some (.slice A4 (distL f).length c4)) := fun w' h => ⟨h.cell (by rw [← hW0]; simp [go_sem]), h.cell (by rw [← hW0]; simp [go_sem]), h.cell (by rw [← hW0]; simp [go_sem]), h.cell (by rw [← hW0]; simp [go_sem]), h.cell (by rw [← hW0]; simp [go_sem]), h.cell (by rw [← hW0]; simp [go_sem])⟩
  have HV : Hid (rval s f (.slice A4 (distL f).length c4) = .agg #[.int .i64 (P : Int), .int .i64 (M : Int), .slice s.a1 f.tr.length s.c1, .slice s.a2 f.bl.length s.c2, .slice s.a3 f.ct.length s.c3, .slice A4 (distL f).length c4]) := by unfold Hid rval; rw [hP, hM]
  rw [HV.out]
  clear hP hM hok hs hc HV
  unfold RefCanPost
  rw [HM.out]
  go_enter Tryz.func38, Tryz.ntmps38
  go_wp2_with fail
  try rw [hW0]
  clear hW0
  refine wp_region_shut Ext (fun w' => Ext W0 w') (fun
    | 4 => some (fun v w' => v = .int .i64 (everyN c : Nat))
    | 5 => some (fun v w' => RowsC w' v (comeL f c (selS (everyN c)) (M + 1)) (M + 1))
    | _ => none) (by kernel_rfl) (by kernel_rfl) (fun _ _ h k => h.trans k) ?hT (Ext.drew (Ext.refl W0)) ?_
  case hT =>
    intro i R hR
    match i, hR with
    | 4, hR => cases hR; exact fun _ _ _ h k => h
    | 5, hR => cases hR; exact fun _ _ _ h k => h.ext k
  refine wM_val ?ua0 rfl rfl Ext.refl (fun w' hD => ?ha0) (fun pha0 => ?na0)
  case ha0 =>
    obtain ⟨d0, d1, d2, d3, d4, d5⟩ := FX.out w' hD.1
    go_simp; rfl
  simp only [Act.put, List.setIfInBounds_toArray, List.set_cons_succ, List.set_cons_zero, Nat.reduceAdd]
  refine wM_val ?ua1 rfl rfl Ext.refl (fun w' hD => ?ha1) (fun pha1 => ?na1)
  case ha1 =>
    obtain ⟨d0, d1, d2, d3, d4, d5⟩ := FX.out w' hD.1
    go_simp; rfl
  simp only [Act.put, List.setIfInBounds_toArray, List.set_cons_succ, List.set_cons_zero, Nat.reduceAdd]
  refine wM_val ?ua2 rfl rfl Ext.refl (fun w' hD => ?ha2) (fun pha2 => ?na2)
  case ha2 =>
    obtain ⟨d0, d1, d2, d3, d4, d5⟩ := FX.out w' hD.1
    go_simp; rfl
  simp only [Act.put, List.setIfInBounds_toArray, List.set_cons_succ, List.set_cons_zero, Nat.reduceAdd]
  refine wM_val ?ua3 rfl rfl Ext.refl (fun w' hD => ?ha3) (fun pha3 => ?na3)
  case ha3 =>
    obtain ⟨d0, d1, d2, d3, d4, d5⟩ := FX.out w' hD.1
    go_simp; rfl
  simp only [Act.put, List.setIfInBounds_toArray, List.set_cons_succ, List.set_cons_zero, Nat.reduceAdd]
  refine wM_op _ rfl rfl (opens_call ?fa4 ?ga4 (fun w' hD => ?ha4) (fun w' hD => ?ca4)) (fun v4 hv4 => ?na4)
  case ha4 => go_simp; constructor <;> rfl
  case ca4 =>
    refine (refevery_any _ f (distL f) k c w' (HF.out w' (hx0.trans hD.1)) HC.out h8).mono ?_
    rintro e w2 ⟨rfl, hb⟩
    exact ⟨_, rfl, hb, rfl⟩
  obtain ⟨_, -, -, rfl⟩ := hv4
  simp only [Act.put, List.setIfInBounds_toArray, List.set_cons_succ, List.set_cons_zero, Nat.reduceAdd]
  refine wM_op _ rfl rfl (opens_call ?fa5 ?ga5 (fun w' hD => ?ha5) (fun w' hD => ?ca5)) (fun v5 hv5 => ?na5)
  case ha5 => go_simp; constructor <;> rfl
  case ca5 =>
    refine (refcome_any _ f k c (everyN c) w' (HF.out w' (hx0.trans hD.1)) HS.out HOK.out HC.out (every_lt h8)).mono ?_
    rintro e w2 ⟨v, rfl, hb, hv⟩
    rw [HM.out] at hv
    exact ⟨_, rfl, hb, rows_cells hv⟩
  obtain ⟨_, -, -, gc, kc, rfl, -⟩ := hv5
  simp only [Act.put, List.setIfInBounds_toArray, List.set_cons_succ, List.set_cons_zero, Nat.reduceAdd]
  refine wM_val ?ua6 rfl rfl Ext.refl (fun w' hD => ?ha6) (fun pha6 => ?na6)
  case ha6 =>
    obtain ⟨d0, d1, d2, d3, d4, d5⟩ := FX.out w' hD.1
    go_simp; rfl
  simp only [Act.put, List.setIfInBounds_toArray, List.set_cons_succ, List.set_cons_zero, Nat.reduceAdd]
  refine wM_nil ?_
  intro w9 hw9 hF9
  obtain ⟨-, gc', kc', e5, hcm⟩ := hF9 5
  cases e5
  clear hF9
  have HCM := hid hcm
  have hxw : Ext w w9 := hx0.trans hw9
  have FX9 : Hid (∀ w', Ext w9 w' → w'.cell? ⟨w.heap.size, 0, none⟩ = some (.int .i64 (P : Int)) ∧ w'.cell? ⟨w.heap.size, 1, none⟩ = some (.int .i64 (M : Int)) ∧ w'.cell? ⟨w.heap.size, 2, none⟩ = some (.slice s.a1 f.tr.length s.c1) ∧ w'.cell? ⟨w.heap.size, 3, none⟩ = some (.slice s.a2 f.bl.length s.c2) ∧ w'.cell? ⟨w.heap.size, 4, none⟩ = some (.slice s.a3 f.ct.length s.c3) ∧ w'.cell? ⟨w.heap.size, 5, none⟩ = some (.slice A4 (distL f).length c4)) := fun w' h => FX.out w' (hw9.trans h)
  clear hcm FX hx0 hw9
  have hmm1 : (M : Int) < (M : Int) + 1 := by omega
  obtain ⟨i, hi, hz, hsize, hby⟩ := info_parts infoSI
  have hb2 : i.bytes * (M + 1) ≤ 281474976710656 := by rw [hby]; omega
  have hm2 : M + 1 ≤ maxLen := by unfold maxLen; omega
  have H2 := hid hm2
  have H3 := hid hb2
  have H4 := hid hi
  have H5 := hid hz
  have H6 := hid hsize
  have H7 : Hid (((M : Int) + 1) = ((M + 1 : Nat) : Int)) := by unfold Hid; omega
  clear hm2 hb2 hi hz hsize hby
  go_wp2_with (at_make; refine wpList_make_full _ rfl _ _ 35 rfl w9.heap.size 42 i (.slice none 0 0) 1 Tryz.underlying35 H4.out H5.out H6.out .i64 .i64 _ _ (M + 1) rfl rfl H7.out H7.out H3.out H2.out (Nat.le_refl _) ?_)
  intro Wm hown hgr
  have hxm : Ext w9 Wm := Ext.grown (Ext.refl _) hgr (fun k e => by cases e)
  obtain ⟨O, hO⟩ : ∃ O, w9.heap.size = O := ⟨_, rfl⟩
  have hout : OutB Wm O (List.replicate (M + 1) (.slice none 0 0)) := by
    rcases hown.2 with ⟨h, _⟩ | ⟨gg, cap, cur, e, hbg, hh, _, _, hcz, htk⟩
    · cases h
    · cases e
      unfold OutB
      rw [← hO, hh]
      congr 2
      have h9 : cur.toList = List.replicate (M + 1) (.slice none 0 0) := by
        rw [toList_madeCells_one] at htk
        rw [List.take_of_length_le (by simp [hcz])] at htk
        simpa using htk
      rw [← h9]
  have HOUT := hid hout
  have hO9 : w9.heap.size ≤ O := by omega
  rw [hO]
  clear hout hown hgr hO
  obtain ⟨d0, d1, d2, d3, d4, d5⟩ := FX9.out Wm hxm
  go_wp2
  clear d0 d1 d2 d3 d4 d5
  go_loopw [7] (fun i7 wr => ∃ (n0 : Nat) (rows : List Value) (z : Int), n0 ≤ M + 1 ∧ i7 = .int .i64 z ∧ Hid (z = (n0 : Int) - 1) ∧ Hid (OutR f c M w9 O n0 rows wr)) (fun i _ => (intOf i + 1).toNat)
  case atStart => exact ⟨M + 1, _, M, Nat.le_refl _, rfl, by unfold Hid; omega, ⟨HOUT.out, by simp, fun i h1 h2 => by omega, fun i h => by simp [h], hxm⟩⟩
  case round =>
    obtain ⟨n0, rows, z, hn0, rfl, HZ, HOS⟩ := hrel
    by_cases hn : n0 = 0
    · have hz0 : ¬ 0 ≤ z := by have := HZ.out; omega
      have hrows : IntRows wr (some ⟨O, 0, none⟩) (canL (farM f) f c) := by
        refine ⟨rows, .inr ⟨O, 0, rfl, fun j u hu => ?_⟩, ?_, fun i l hl => ?_⟩
        · rw [Nat.zero_add, HOS.out.blk.cell]; exact hu
        · rw [HOS.out.len, canR_len HM.out]
        · have hi : i < M + 1 := by rw [← canR_len (f := f) (c := c) HM.out]; exact (List.getElem?_eq_some_iff.1 hl).1
          rw [canR_get HM.out (by omega)] at hl
          cases hl
          obtain ⟨A4, k4, hr4, hI4, hN4, hk4⟩ := HOS.out.old i (by omega) hi
          exact ⟨A4, k4, by rw [natI_len]; exact hr4, hI4, by rw [natI_len]; exact hk4⟩
      have HROWS := hid hrows
      have hxr := hxw.trans HOS.out.ext
      clear hrows HOS HZ
      go_wp2
      go_ret
      exact ⟨_, M + 1, rfl, hxr, HROWS.out, Nat.le_refl _⟩
    · obtain ⟨m, rfl⟩ : ∃ m, n0 = m + 1 := ⟨n0 - 1, by omega⟩
      obtain rfl : z = (m : Int) := by have := HZ.out; omega
      have hmM : m ≤ M := by omega
      have hz0 : 0 ≤ (m : Int) := by omega
      have hm1 : (m : Int) < (M : Int) + 1 := by omega
      obtain ⟨d0, d1, d2, d3, d4, d5⟩ := FX9.out wr HOS.out.ext
      clear HZ hn
      obtain ⟨Wb, hWb⟩ : ∃ Wb : World, Wb = wr := ⟨_, rfl⟩
      subst hWb
      go_wp2
      clear d0 d1 d2 d3 d4 d5
      go_loopw [8, 9, 10] (fun i8 i9 i10 V => ∃ p : Nat, p ≤ P ∧ i8 = .int .i64 (p : Int) ∧ ∃ A k n, Hid (OutB V O (rows.set m (.slice A n k))) ∧ Hid (V.ownsRow Wb.heap.size 3 1 (.slice A n k) n ((natI (rcP f c M m p)).map (.int .i64))) ∧ Hid (n = (rcP f c M m p).length) ∧ Hid (Bel O Wb V)) (fun i _ _ _ => P - (intOf i).toNat)
      case atStart =>
        refine ⟨0, Nat.zero_le _, rfl, none, 0, 0, ?_, own_nil _ _ _ _, rfl, Bel.refl _ _⟩
        have h := HOS.out.new m (by omega)
        have : rows.set m (.slice none 0 0) = rows := by
          apply List.ext_getElem?
          intro j
          rw [List.getElem?_set]
          split
          · rename_i e; subst e
            have hh : m < rows.length := by rw [HOS.out.len]; omega
            rw [if_pos hh, h]
          · rfl
        unfold Hid
        rw [this]; exact HOS.out.blk
      case round =>
        obtain ⟨p, hp, rfl, A, kk, n, HOV, HOW, HNL, HBV⟩ := hrel
        have hxb : Ext w9 wr := HOS.out.ext.then_bel hO9 HBV.out
        obtain ⟨d0, d1, d2, d3, d4, d5⟩ := FX9.out wr hxb
        obtain ⟨V, hV⟩ : ∃ V : World, V = wr := ⟨_, rfl⟩
        subst hV
        by_cases hlp : p < P
        · have hlp' : (p : Int) < (P : Int) := by omega
          have HQ0 : Hid ((m == M) = onQ f c M m p 0) := by
            unfold Hid
            by_cases e : m = M
            · subst e; rw [onQ_top]; simp
            · rw [onQ_zero e]; simpa using e
          have hcast : ((m : Int) == (M : Int)) = (m == M) := by
            rw [Bool.eq_iff_iff]; simp; omega
          go_wp2
          clear d0 d1 d2 d3 d4 d5
          go_loopw [10, 9] (fun i10 i9 wr => ∃ q : Nat, q ≤ P ∧ i10 = .int .i64 (q : Int) ∧ (∃ B, i9 = .bool B ∧ Hid (B = onQ f c M m p q)) ∧ Ext V wr) (fun i _ _ => P - (intOf i).toNat)
          case atStart => exact ⟨0, Nat.zero_le _, rfl, ⟨_, rfl, HQ0⟩, Ext.refl _⟩
          case round =>
            obtain ⟨q, hq, rfl, ⟨B, rfl, HB⟩, hxq⟩ := hrel
            obtain ⟨d0, d1, d2, d3, d4, d5⟩ := FX9.out wr (hxb.trans hxq)
            by_cases hlq : q < P
            · have hlq' : (q : Int) < (P : Int) := by omega
              by_cases hlm : m < M
              · have hlm' : (m : Int) < (M : Int) := by omega
                have hlm2 : (m : Int) + 1 < (M : Int) + 1 := by omega
                obtain ⟨A4, k4, hr4, hI4, hN4, hk4⟩ := HOS.out.old (m + 1) (by omega) (by omega)
                have c4 : wr.cell? ⟨O, m + 1, none⟩ = some (.slice A4 (rcM f c M (m + 1)).length k4) := by
                  rw [(HOV.out.ext hxq).cell, List.getElem?_set, if_neg (by omega)]; exact hr4
                have HSQ := hid (onQ_succ (f := f) (c := c) (show m ≠ M by omega) p q)
                cases B
                case true =>
                  have HB2 : Hid (true = onQ f c M m p (q + 1)) := by unfold Hid; rw [HSQ.out, ← HB.out]; rfl
                  clear HB HSQ c4 hr4
                  go_wp2
                  go_roundw
                  case rel => exact ⟨q + 1, by omega, by go_num, ⟨true, rfl, HB2⟩, hxq⟩
                  case measure => simp [intOf]; omega
                have K := refhas_any A4 k4 (natI (rcM f c M (m + 1))) q wr ((hI4.bel HBV.out hN4).ext hxq) (by rw [natI_len, rcM_is HM.out (by omega)]; exact Nat.le_trans (rcP_len _ _) (by rw [HP.out]; omega))
                obtain ⟨E, hE⟩ : ∃ E, memI (q : Int) (natI (rcM f c M (m + 1))) = E := ⟨_, rfl⟩
                rw [natI_len, hE] at K
                have HSQ2 : Hid (onQ f c M m p (q + 1) = (E && decide (farM f p q ≤ 1))) := by unfold Hid; rw [HSQ.out, ← HB.out, hE]; rfl
                have HK := hid K
                clear K hE hI4 hr4 hk4 HB HSQ
                generalize (rcM f c M (m + 1)).length = L4 at c4 HK
                go_wp2_with fail
                refine HK.out.mono ?_
                clear HK
                rintro e w3 ⟨rfl, hw3⟩
                subst w3
                cases E
                case false =>
                  have HB2 : Hid (false = onQ f c M m p (q + 1)) := by unfold Hid; rw [HSQ2.out]; rfl
                  clear HSQ2
                  go_wp2
                  go_roundw
                  case rel => exact ⟨q + 1, by omega, by go_num, ⟨false, rfl, HB2⟩, hxq⟩
                  case measure => simp [intOf]; omega
                have K := refbeside_any _ f (distL f) p q wr (HF.out wr (hxw.trans (hxb.trans hxq))) HS.out
                obtain ⟨BS, hBS⟩ : ∃ BS, besideB f (p : Int) (q : Int) = BS := ⟨_, rfl⟩
                rw [hBS] at K
                have HB2 : Hid (BS = onQ f c M m p (q + 1)) := by
                  unfold Hid
                  rw [HSQ2.out, ← hBS, besideB_far HOK.out (by omega) (by omega)]
                  rfl
                have HK := hid K
                clear K hBS HSQ2
                go_wp2_with fail
                refine HK.out.mono ?_
                clear HK
                rintro e w5 ⟨rfl, hb5⟩
                have hx5 := hxq.trans hb5
                clear hb5 c4 d0 d1 d2 d3 d4 d5
                go_wp2
                go_roundw
                case rel => exact ⟨q + 1, by omega, by go_num, ⟨BS, rfl, HB2⟩, hx5⟩
                case measure => simp [intOf]; omega
              · have hlm' : ¬ (m : Int) < (M : Int) := by omega
                have HBR : Hid (B = onR f c M m p) := by
                  unfold Hid
                  rw [HB.out]
                  unfold onQ onR
                  rw [if_pos (show m = M by omega), if_pos (show m = M by omega)]
                clear HB
                cases B
                case false =>
                  have HN : Hid (rcP f c M m (p + 1) = rcP f c M m p) := by unfold Hid; rw [rcP_succ, ← HBR.out]; simp
                  have HOV2 := hid (HOV.out.ext hxq)
                  have HOW2 := hid (own_below HOW.out hxq)
                  have HBV2 := hid (HBV.out.trans (hxq.bel (D := O)))
                  clear HOV HOW HBV
                  go_wp2
                  go_roundw
                  case rel => exact ⟨p + 1, by omega, by go_num, A, kk, n, HOV2, by unfold Hid; rw [HN.out]; exact HOW2.out, by unfold Hid; rw [HN.out]; exact HNL.out, HBV2⟩
                  case measure => simp [intOf]; omega
                obtain ⟨bd, od, A9, k9, e9, g9, hI9, -⟩ := (HCM.out.ext (hxb.trans hxq)).at_ (comeL_get (show m < M + 1 by omega))
                obtain ⟨b8, o8, e8, g8⟩ := hI9.at_ (comeR_get (f := f) (c := c) (sel := selS (everyN c)) (m := m) (q := p) (by rw [HP.out]; exact hlp))
                rw [comeR_len, HP.out] at g9
                rw [come_all] at g8
                cases e9
                obtain ⟨Y, hY⟩ : ∃ Y, comeM (farM f) f c allF m p = Y := ⟨_, rfl⟩
                rw [hY] at g8
                have HY := hid hY
                subst e8
                rw [Nat.zero_add] at g9
                clear hY hI9
                by_cases hr0 : 0 < Y
                case neg =>
                  have hrd : decide (0 < Y) = false := by simpa using hr0
                  have HN : Hid (rcP f c M m (p + 1) = rcP f c M m p) := by unfold Hid; rw [rcP_succ, ← HBR.out, HY.out, hrd]; simp
                  have HOV2 := hid (HOV.out.ext hxq)
                  have HOW2 := hid (own_below HOW.out hxq)
                  have HBV2 := hid (HBV.out.trans (hxq.bel (D := O)))
                  clear HOV HOW HBV
                  go_wp2
                  go_roundw
                  case rel => exact ⟨p + 1, by omega, by go_num, A, kk, n, HOV2, by unfold Hid; rw [HN.out]; exact HOW2.out, by unfold Hid; rw [HN.out]; exact HNL.out, HBV2⟩
                  case measure => simp [intOf]; omega
                have hrd : decide (0 < Y) = true := by simpa using hr0
                have HN : Hid (rcP f c M m (p + 1) = rcP f c M m p ++ [p]) := by unfold Hid; rw [rcP_succ, ← HBR.out, HY.out, hrd]; rfl
                obtain ⟨U, hU⟩ : ∃ V : World, V = wr := ⟨_, rfl⟩
                subst hU
                have hO5 := HOV.out.ext hxq
                have hc5 : (rows.set m (.slice A n kk))[m]? = some (.slice A n kk) := by rw [List.getElem?_set, if_pos rfl, if_pos (by rw [HOS.out.len]; omega)]
                have c5 := hO5.cell m
                rw [hc5] at c5
                have c5a := fun o => (Ext.alloc (Ext.refl U) o).cell c5
                obtain ⟨W5, hW5⟩ : ∃ W5, U.alloc (.cells #[.int .i64 (p : Int)] 3) = W5 := ⟨_, rfl⟩
                have hx5 : Ext U W5 := by rw [← hW5]; exact Ext.alloc (Ext.refl _) _
                have HRD : Hid (Rd W5 (some ⟨U.heap.size, 0, none⟩) [.int .i64 (p : Int)]) := by
                  unfold Hid; rw [← hW5]
                  exact rd_block (heap_alloc_new U (.cells #[.int .i64 (p : Int)] 3))
                have OWN5 := hid (own_below HOW.out (hxq.trans hx5))
                have HB5 := hid (HBV.out.trans ((hxq.trans hx5).bel (D := O)))
                have HO5 := hid (hO5.ext hx5)
                have hsz5 := HB5.out.size
                have hOb := HOS.out.blk.lt
                have hnn : n ≤ 8 := by rw [HNL.out]; exact Nat.le_trans (rcP_len _ _) (by omega)
                have hnb : (n + 1) * 8 ≤ 140737488355328 := by omega
                clear HOV HOW HBV hO5
                go_wp2_with (at_builtin; (try rw [hW5]); refine wpList_append_rd2 _ rfl _ _ 42 rfl elem_int Wb.heap.size _ n _ rfl OWN5.out (some ⟨U.heap.size, 0, none⟩) 1 1 [.int .i64 (p : Int)] rfl rfl HRD.out (by simp [Value.oneCell']) hnb hsz5 ?_)
                intro A6 k6 W6 own6 hbel6 hgr6 hloc6
                have hb6 := HB5.out.below hbel6
                have hO6 : OutB W6 O (rows.set m (.slice A n kk)) := (Below.block hbel6 O hOb).trans HO5.out
                have c6 := hO6.cell m
                rw [hc5] at c6
                have f6 := hO6.frozen m
                have hb7 := (Bel.refl O W6).setCell m (.slice A6 (n + 1) k6)
                have hO7 := hO6.set m (.slice A6 (n + 1) k6)
                rw [List.set_set] at hO7
                have own7 := hb7.own own6 (fun g hg => by have := (own6.lt g hg).1; omega)
                have HB8 := hid (hb6.trans hb7)
                have HN1 : Hid (n + 1 = (rcP f c M m (p + 1)).length) := by unfold Hid; rw [HN.out, List.length_append, ← HNL.out]; rfl
                have HOWN8 : Hid ((W6.setCell ⟨O, m, none⟩ (.slice A6 (n + 1) k6)).ownsRow Wb.heap.size 3 1 (.slice A6 (n + 1) k6) (n + 1) ((natI (rcP f c M m (p + 1))).map (.int .i64))) := by
                  unfold Hid
                  rw [HN.out, natI_app, List.map_append]
                  exact own7
                have HO7 := hid hO7
                clear own6 own7 hb6 hb7 hO6 OWN5 HB5 HO5 HRD hO7 hbel6 hgr6 hloc6 c5 c5a g8 g9 hW5 hx5
                go_wp2
                go_roundw
                case rel => exact ⟨p + 1, by omega, by go_num, A6, k6, n + 1, HO7, HOWN8, HN1, HB8⟩
                case measure => simp [intOf]; omega
            · have hlq' : ¬ (q : Int) < (P : Int) := by omega
              have HBR : Hid (B = onR f c M m p) := by
                unfold Hid
                rw [HB.out, ← onQ_all HM.out hmM, HP.out, show q = P by omega]
              clear HB
              cases B
              case false =>
                have HN : Hid (rcP f c M m (p + 1) = rcP f c M m p) := by unfold Hid; rw [rcP_succ, ← HBR.out]; simp
                have HOV2 := hid (HOV.out.ext hxq)
                have HOW2 := hid (own_below HOW.out hxq)
                have HBV2 := hid (HBV.out.trans (hxq.bel (D := O)))
                clear HOV HOW HBV
                go_wp2
                go_roundw
                case rel => exact ⟨p + 1, by omega, by go_num, A, kk, n, HOV2, by unfold Hid; rw [HN.out]; exact HOW2.out, by unfold Hid; rw [HN.out]; exact HNL.out, HBV2⟩
                case measure => simp [intOf]; omega
              obtain ⟨bd, od, A9, k9, e9, g9, hI9, -⟩ := (HCM.out.ext (hxb.trans hxq)).at_ (comeL_get (show m < M + 1 by omega))
              obtain ⟨b8, o8, e8, g8⟩ := hI9.at_ (comeR_get (f := f) (c := c) (sel := selS (everyN c)) (m := m) (q := p) (by rw [HP.out]; exact hlp))
              rw [comeR_len, HP.out] at g9
              rw [come_all] at g8
              cases e9
              obtain ⟨Y, hY⟩ : ∃ Y, comeM (farM f) f c allF m p = Y := ⟨_, rfl⟩
              rw [hY] at g8
              have HY := hid hY
              subst e8
              rw [Nat.zero_add] at g9
              clear hY hI9
              by_cases hr0 : 0 < Y
              case neg =>
                have hrd : decide (0 < Y) = false := by simpa using hr0
                have HN : Hid (rcP f c M m (p + 1) = rcP f c M m p) := by unfold Hid; rw [rcP_succ, ← HBR.out, HY.out, hrd]; simp
                have HOV2 := hid (HOV.out.ext hxq)
                have HOW2 := hid (own_below HOW.out hxq)
                have HBV2 := hid (HBV.out.trans (hxq.bel (D := O)))
                clear HOV HOW HBV
                go_wp2
                go_roundw
                case rel => exact ⟨p + 1, by omega, by go_num, A, kk, n, HOV2, by unfold Hid; rw [HN.out]; exact HOW2.out, by unfold Hid; rw [HN.out]; exact HNL.out, HBV2⟩
                case measure => simp [intOf]; omega
              have hrd : decide (0 < Y) = true := by simpa using hr0
              have HN : Hid (rcP f c M m (p + 1) = rcP f c M m p ++ [p]) := by unfold Hid; rw [rcP_succ, ← HBR.out, HY.out, hrd]; rfl
              obtain ⟨U, hU⟩ : ∃ V : World, V = wr := ⟨_, rfl⟩
              subst hU
              have hO5 := HOV.out.ext hxq
              have hc5 : (rows.set m (.slice A n kk))[m]? = some (.slice A n kk) := by rw [List.getElem?_set, if_pos rfl, if_pos (by rw [HOS.out.len]; omega)]
              have c5 := hO5.cell m
              rw [hc5] at c5
              have c5a := fun o => (Ext.alloc (Ext.refl U) o).cell c5
              obtain ⟨W5, hW5⟩ : ∃ W5, U.alloc (.cells #[.int .i64 (p : Int)] 3) = W5 := ⟨_, rfl⟩
              have hx5 : Ext U W5 := by rw [← hW5]; exact Ext.alloc (Ext.refl _) _
              have HRD : Hid (Rd W5 (some ⟨U.heap.size, 0, none⟩) [.int .i64 (p : Int)]) := by
                unfold Hid; rw [← hW5]
                exact rd_block (heap_alloc_new U (.cells #[.int .i64 (p : Int)] 3))
              have OWN5 := hid (own_below HOW.out (hxq.trans hx5))
              have HB5 := hid (HBV.out.trans ((hxq.trans hx5).bel (D := O)))
              have HO5 := hid (hO5.ext hx5)
              have hsz5 := HB5.out.size
              have hOb := HOS.out.blk.lt
              have hnn : n ≤ 8 := by rw [HNL.out]; exact Nat.le_trans (rcP_len _ _) (by omega)
              have hnb : (n + 1) * 8 ≤ 140737488355328 := by omega
              clear HOV HOW HBV hO5
              go_wp2_with (at_builtin; (try rw [hW5]); refine wpList_append_rd2 _ rfl _ _ 42 rfl elem_int Wb.heap.size _ n _ rfl OWN5.out (some ⟨U.heap.size, 0, none⟩) 1 1 [.int .i64 (p : Int)] rfl rfl HRD.out (by simp [Value.oneCell']) hnb hsz5 ?_)
              intro A6 k6 W6 own6 hbel6 hgr6 hloc6
              have hb6 := HB5.out.below hbel6
              have hO6 : OutB W6 O (rows.set m (.slice A n kk)) := (Below.block hbel6 O hOb).trans HO5.out
              have c6 := hO6.cell m
              rw [hc5] at c6
              have f6 := hO6.frozen m
              have hb7 := (Bel.refl O W6).setCell m (.slice A6 (n + 1) k6)
              have hO7 := hO6.set m (.slice A6 (n + 1) k6)
              rw [List.set_set] at hO7
              have own7 := hb7.own own6 (fun g hg => by have := (own6.lt g hg).1; omega)
              have HB8 := hid (hb6.trans hb7)
              have HN1 : Hid (n + 1 = (rcP f c M m (p + 1)).length) := by unfold Hid; rw [HN.out, List.length_append, ← HNL.out]; rfl
              have HOWN8 : Hid ((W6.setCell ⟨O, m, none⟩ (.slice A6 (n + 1) k6)).ownsRow Wb.heap.size 3 1 (.slice A6 (n + 1) k6) (n + 1) ((natI (rcP f c M m (p + 1))).map (.int .i64))) := by
                unfold Hid
                rw [HN.out, natI_app, List.map_append]
                exact own7
              have HO7 := hid hO7
              clear own6 own7 hb6 hb7 hO6 OWN5 HB5 HO5 HRD hO7 hbel6 hgr6 hloc6 c5 c5a g8 g9 hW5 hx5
              go_wp2
              go_roundw
              case rel => exact ⟨p + 1, by omega, by go_num, A6, k6, n + 1, HO7, HOWN8, HN1, HB8⟩
              case measure => simp [intOf]; omega
        · have hlp' : ¬ (p : Int) < (P : Int) := by omega
          have hcn : rcP f c M m p = rcM f c M m := by rw [rcM_is HM.out hmM, HP.out, show p = P by omega]
          have hov := HOV.out
          have how := HOW.out
          have hnl := HNL.out
          rw [hcn] at how hnl
          subst hnl
          have hos2 : OutR f c M w9 O m (rows.set m (.slice A (rcM f c M m).length kk)) V := by
            have hOb := HOS.out.blk.lt
            refine ⟨hov, by rw [List.length_set]; exact HOS.out.len, fun i h1 h2 => ?_, fun i hi => ?_, hxb⟩
            · by_cases e : i = m
              · subst e
                refine ⟨A, kk, by rw [List.getElem?_set, if_pos rfl, if_pos (by rw [HOS.out.len]; omega)], Rd.of_own how, fun a ha => ?_, own_cap how⟩
                have := own_block_lt how a ha
                omega
              · obtain ⟨A4, k4, hr4, hI4, hN4, hk4⟩ := HOS.out.old i (by omega) h2
                exact ⟨A4, k4, by rw [List.getElem?_set, if_neg (fun q => e q.symm)]; exact hr4, hI4.bel HBV.out hN4, hN4, hk4⟩
            · rw [List.getElem?_set, if_neg (by omega)]
              exact HOS.out.new i (by omega)
          have HOS2 := hid hos2
          clear hos2 hov how HOV HOW HNL hcn
          go_wp2
          go_roundw
          case rel => exact ⟨m, _, (m : Int) - 1, by omega, rfl, rfl, HOS2⟩
          case measure => simp [intOf]; try omega
end Go.Proofs.YtpbpcplboikpcaaGreat
