/- The Go function laurellaw10.WarnNeeded returns true for every call, and leaves what is passed in as it was: no further condition. -/
import Derived.Test.YtgnjhaomlbkgcaaWMadeP
import Derived.Test.YtgnjhaomlbkgcaaHolds
import Derived.Test.YtgnjhaomlbkgcaaWFewP
import Derived.Test.YtgnjhaomlbkgcaaWLiars2
import Derived.Test.YtgnjhaomlbkgcaaRegPre
import Derived.Test.YtgnjhaomlbkgcaaTwin
import Derived.Test.YtgnjhaomlbkgcaaWSlices
import Derived.Laws.CopyOwn
import Derived.Test.YtgnjhaomlbkgcaaTold
import Derived.Test.YtgnjhaomlbkgcaaWMade
import Derived.Test.YtgnjhaomlbkgcaaWAwake
import Derived.Test.YtgnjhaomlbkgcaaWTruth
import Derived.Test.YtgnjhaomlbkgcaaEqI
import Derived.Test.YtgnjhaomlbkgcaaApp2
import Derived.Test.YtgnjhaomlbkgcaaWNeeded
import Derived.Test.YtgnjhaomlbkgcaaRows
import Derived.Test.YtgnjhaomlbkgcaaLift
import Derived.WalkKit
import Derived.ProofKit
import Derived.OpenShut
import Derived.ShutString
import Derived.ChangeOld
import Derived.Below
namespace Go.Proofs.Ytgnjhaomlbkgcaa
open Go Go.RowKit
set_option linter.unusedVariables false
set_option linter.unusedSimpArgs false

theorem MadeOK.sized1 {evm bm cm : Nat} {lo : Int} {c : Cs} {real : List Int} (h : MadeOK evm bm cm lo c real) (hb : bm ≤ 20) (hc : cm ≤ 8) : c.sized :=
  ⟨by have := h.bsl; omega, by have := h.cll; omega, fun x hx => by have := (h.cl x hx).2.1; omega⟩
theorem bdIn_of {c : Cs} (h0 : checkC c = 0) {n : Nat} (hn : (n : Int) = c.ev) : ∀ b ∈ c.all, bdIn n b := fun b hb => by
  have h1 := evOK_get (checkC_ok h0).2.2.1 hb
  have h2 := limOK_get (checkC_ok h0).2.1 hb
  exact ⟨by omega, by omega, by omega, by omega⟩
end Go.Proofs.Ytgnjhaomlbkgcaa

namespace Go.Proofs.Ytgnjhaomlbkgcaa
open Go Go.RowKit
set_option linter.unusedVariables false
set_option linter.unusedSimpArgs false

def Cs.believe (tf : Int → Bool) (c : Cs) : Cs := { c with cl := c.cl.filter fun x => tf x.w }
theorem belL_split (tf : Int → Bool) (c : Cs) : belL tf c = c.bs ++ (c.cl.filter fun x => tf x.w).flatMap (·.bs) := by
  have h : ∀ (l : List Cl) (n : Nat), (clNum tf n l).map (·.2) = (l.filter fun x => tf x.w).flatMap (·.bs) := by
    intro l
    induction l with
    | nil => intro n; rfl
    | cons x l ih =>
      intro n
      simp only [clNum, List.map_append, ih, List.filter_cons]
      cases hq : tf x.w
      · simp
      · simp [numFrom_snd']
  unfold belL belNum
  rw [List.map_append, numFrom_snd', h]
theorem believe_all (tf : Int → Bool) (c : Cs) : (c.believe tf).all = belL tf c := by rw [belL_split]; rfl
theorem believe_gaps (tf : Int → Bool) (c : Cs) : gapsM allT (c.believe tf) = gapsM tf c := by
  have h1 : belL allT (c.believe tf) = belL tf c := by rw [belL_all, believe_all]
  unfold gapsM
  unfold belL at h1
  rw [h1]
theorem gaps_congr {tf tf' : Int → Bool} {c : Cs} (h : ∀ x ∈ c.cl, tf x.w = tf' x.w) : gapsM tf c = gapsM tf' c := by
  have h1 : belL tf c = belL tf' c := by
    rw [belL_split, belL_split]
    congr 2
    exact List.filter_congr h
  unfold gapsM
  unfold belL at h1
  rw [h1]
theorem believe_check {c : Cs} (h : checkC c = 0) (tf : Int → Bool) : checkC (c.believe tf) = 0 := by
  obtain ⟨h1, h2, h3, h4, h5⟩ := checkC_ok h
  obtain ⟨e1, e2, e3, e4, e5, e6, e7⟩ := manyOK_parts h1
  have hm : ∀ {x : Cl}, x ∈ (c.believe tf).cl → x ∈ c.cl := fun {x} hx => (List.mem_filter.1 (show x ∈ c.cl.filter _ from hx)).1
  refine checkC_of ⟨e1, e2⟩ e3 ⟨e4, e5⟩ (Nat.le_trans (show (c.cl.filter _).length ≤ _ from List.length_filter_le _ _) e6) (fun x hx => ?_) (fun b hb => ?_)
  · simp only [witOK, List.all_eq_true, inB_iff] at h4
    have := h4 x (hm hx)
    exact ⟨e7 x (hm hx), this.1, by show x.w < c.wi; omega⟩
  · rw [believe_all] at hb
    have hb' : b ∈ c.all := bel_mem' hb
    obtain ⟨p1, p2⟩ := evOK_get h3 hb'
    have p3 := limOK_get h2 hb'
    simp only [diffOK, List.all_eq_true] at h5
    have p4 := h5 b hb'
    exact ⟨p1, p2, by simpa using p4, p3⟩
theorem believe_told {c : Cs} (h : checkC c = 0) (tf : Int → Bool) : toldC (c.believe tf) = if clashM (gapsM tf c) then 7 else 0 := by
  unfold toldC
  rw [if_pos (believe_check h tf), believe_gaps]
theorem mem_memI {x : Int} {l : List Int} : memI x l = true ↔ x ∈ l := by
  unfold memI
  rw [List.any_eq_true]
  constructor
  · rintro ⟨y, hy, e⟩
    have : x = y := by simpa using e
    rw [this]; exact hy
  · exact fun h => ⟨x, h, by simp⟩
/-- The witnesses of a kind, as a list. -/
def someW (P : Nat → Bool) (wi : Nat) : List Int := ((List.range wi).filter P).map fun n : Nat => (n : Int)
theorem someW_asc (P : Nat → Bool) (wi : Nat) : Asc 0 wi (someW P wi) := by
  unfold someW
  rw [List.range_eq_range']
  exact Asc.filter P wi wi 0 (by omega)
theorem mem_someW {P : Nat → Bool} {wi : Nat} {x : Int} : x ∈ someW P wi ↔ 0 ≤ x ∧ x < wi ∧ P x.toNat = true := by
  unfold someW
  simp only [List.mem_map, List.mem_filter, List.mem_range]
  constructor
  · rintro ⟨n, ⟨h1, h2⟩, rfl⟩
    exact ⟨by omega, by omega, by rw [Int.toNat_natCast]; exact h2⟩
  · rintro ⟨h1, h2, h3⟩
    exact ⟨x.toNat, ⟨by omega, h3⟩, by omega⟩
theorem someW_snoc (P : Nat → Bool) (k : Nat) : someW P (k + 1) = someW P k ++ if P k then [(k : Int)] else [] := by
  unfold someW
  rw [List.range_succ, List.filter_append, List.map_append]
  congr 1
  simp only [List.filter_cons, List.filter_nil]
  split <;> rfl
theorem someW_len (P : Nat → Bool) (k : Nat) : (someW P k).length ≤ k := by
  unfold someW
  rw [List.length_map]
  exact Nat.le_trans (List.length_filter_le _ _) (by simp)

/-- A witness has a claim of which a bound is not true. -/
def liedP (c : Cs) (t : Nat → Int) (n : Nat) : Bool := c.cl.any fun x => x.w == (n : Int) && !(x.bs.all fun b => decide (t b.t.toNat ≤ t b.f.toNat + b.m))

theorem wits {c : Cs} (h : checkC c = 0) : ∀ x ∈ c.cl, 0 ≤ x.w ∧ x.w < c.wi := fun x hx => by
  have := (checkC_ok h).2.2.2.1
  simp only [witOK, List.all_eq_true, inB_iff] at this
  have := this x hx
  omega
structure LiarsOK (c : Cs) (real : List Int) (l : List Int) : Prop where
  few : fewL (liarsP c) c.wi.toNat = some l
  asc : Asc 0 c.wi.toNat l
  len : l.length ≤ (someW (liedP c (fun k => real.getD k 0)) c.wi.toNat).length
  sets : ∀ P : Nat → Bool, (toldC (c.believe (fun x => memI x (someW (fun n => !P n) c.wi.toNat))) = 0 ∨ toldC (c.believe (fun x => memI x (someW (fun n => !P n) c.wi.toNat))) = 7) ∧
    (someW P c.wi.toNat = l → toldC (c.believe (fun x => memI x (someW (fun n => !P n) c.wi.toNat))) ≠ 7) ∧ (fewerL (someW P c.wi.toNat) l = true → toldC (c.believe (fun x => memI x (someW (fun n => !P n) c.wi.toNat))) ≠ 0)
theorem liars_ok {c : Cs} {real : List Int} (h0 : checkC c = 0) (hb : ∀ b ∈ c.bs, real.getD b.t.toNat 0 ≤ real.getD b.f.toNat 0 + b.m) : ∃ l, LiarsOK c real l := by
  have hw := wits h0
  have hlied : liarsP c (someW (liedP c (fun k => real.getD k 0)) c.wi.toNat) = true := by
    unfold liarsP
    rw [clash_of h0]
    · rfl
    · refine TruthOf.fine (t := fun k => real.getD k 0) fun b hq => ?_
      rw [belL_split, List.mem_append] at hq
      rcases hq with hq | hq
      · exact hb b hq
      · obtain ⟨x, hx, hbx⟩ := List.mem_flatMap.1 hq
        obtain ⟨hx1, hx2⟩ := List.mem_filter.1 hx
        have hwx := hw x hx1
        have hn : ¬ x.w ∈ someW (liedP c (fun k => real.getD k 0)) c.wi.toNat := fun hm => by
          rw [mem_memI.2 hm] at hx2; simp at hx2
        rw [mem_someW] at hn
        have h1 : liedP c (fun k => real.getD k 0) x.w.toNat = false := by
          rw [Bool.eq_false_iff]
          intro h1
          exact hn ⟨hwx.1, by omega, h1⟩
        unfold liedP at h1
        rw [List.any_eq_false] at h1
        have h2 := h1 x hx1
        simp only [Bool.and_eq_true, beq_iff_eq, Bool.not_eq_true', not_and, Bool.not_eq_false] at h2
        have h3 := List.all_eq_true.1 (h2 (by omega)) b hbx
        simpa using h3
  rcases hf : fewL (liarsP c) c.wi.toNat with _ | l
  · have := fewL_none hf _ (someW_asc (liedP c (fun k => real.getD k 0)) c.wi.toNat)
    rw [hlied] at this; cases this
  · obtain ⟨h1, h2, h3⟩ := fewL_some hf
    have hgone : ∀ P : Nat → Bool, toldC (c.believe (fun x => memI x (someW (fun n => !P n) c.wi.toNat))) = if liarsP c (someW P c.wi.toNat) then 0 else 7 := fun P => by
      rw [believe_told h0]
      have e : gapsM (fun x => memI x (someW (fun n => !P n) c.wi.toNat)) c = gapsM (fun n => !memI n (someW P c.wi.toNat)) c := gaps_congr fun x hx => by
        have hwx := hw x hx
        have m1 := mem_memI (x := x.w) (l := someW (fun n => !P n) c.wi.toNat)
        have m2 := mem_memI (x := x.w) (l := someW P c.wi.toNat)
        rw [mem_someW] at m1 m2
        have hlt : x.w < (c.wi.toNat : Int) := by omega
        cases hp : P x.w.toNat
        · have q1 := m1.2 ⟨hwx.1, hlt, by rw [hp]; rfl⟩
          have q2 : memI x.w (someW P c.wi.toNat) = false := by
            rw [Bool.eq_false_iff]; intro hh
            have := (m2.1 hh).2.2
            rw [hp] at this; cases this
          rw [q1, q2]; rfl
        · have q1 := m2.2 ⟨hwx.1, hlt, hp⟩
          have q2 : memI x.w (someW (fun n => !P n) c.wi.toNat) = false := by
            rw [Bool.eq_false_iff]; intro hh
            have := (m1.1 hh).2.2
            rw [hp] at this; cases this
          rw [q1, q2]; rfl
      rw [e]
      unfold liarsP
      cases clashM (gapsM (fun n => !memI n (someW P c.wi.toNat)) c) <;> rfl
    refine ⟨l, hf, h1, ?_, fun P => ⟨?_, fun e => ?_, fun hfew => ?_⟩⟩
    · rcases Nat.lt_or_ge (someW (liedP c (fun k => real.getD k 0)) c.wi.toNat).length l.length with h4 | h4
      · have := h3 (someW (liedP c (fun k => real.getD k 0)) c.wi.toNat) (someW_asc _ _) (by unfold fewerL; rw [decide_eq_true h4]; rfl)
        rw [hlied] at this; cases this
      · exact h4
    · rw [hgone]; split <;> simp
    · rw [hgone, e, h2]; simp
    · rw [hgone, h3 _ (someW_asc _ _) hfew]; simp

/-! ### What is needed -/
theorem gap_mono {tf tf' : Int → Bool} {c : Cs} (h0 : checkC c = 0) (hf : Fine c.all) (hs : ∀ x ∈ c.cl, tf x.w = true → tf' x.w = true) {a b : Nat} (ha : a < 8) (hb : b < 8) (hn : gapsM tf c a b < 0) : gapsM tf' c a b < 0 := by
  have hsub : ∀ x ∈ belL tf c, x ∈ belL tf' c := fun x hx => by
    rw [belL_split, List.mem_append] at *
    rcases hx with hx | hx
    · exact .inl hx
    · obtain ⟨y, hy, hxy⟩ := List.mem_flatMap.1 hx
      obtain ⟨h1, h2⟩ := List.mem_filter.1 hy
      exact .inr (List.mem_flatMap.2 ⟨y, List.mem_filter.2 ⟨h1, hs y h1 h2⟩, hxy⟩)
  have hf' : Fine (belL tf' c) := fun v l hv hr => hf v l hv (hr.mono fun x hx => bel_mem' hx)
  obtain ⟨l, hl, he⟩ := gap_row h0 ha hb (fun e => by rw [e] at hn; unfold far at hn; omega)
  have := gap_le h0 hf' ha hb (hl.mono hsub)
  omega
theorem verdict_yes {g : Mat} {a b : Nat} : verdictM g a b = 1 ↔ g b a < 0 := by
  unfold verdictM
  by_cases h : g b a < 0
  · simp [h]
  · rw [if_neg h]
    constructor
    · intro h2; split at h2 <;> omega
    · intro h2; exact absurd h2 h
structure NeededOK (c : Cs) (a b : Nat) : Prop where
  yes : neededC c a b = 0 ↔ (beforeOf c a b).1 = 1
  code : neededC c a b = 0 ∨ neededC c a b = 6
  few : ∀ l, fewL (neededP c a b) c.wi.toNat = some l → Asc 0 c.wi.toNat l ∧ ∀ P : Nat → Bool, ((beforeOf (c.believe (fun x => memI x (someW P c.wi.toNat))) a b).1 = 1 → fewerL (someW P c.wi.toNat) l = false) ∧
    (someW P c.wi.toNat = l → (beforeOf (c.believe (fun x => memI x (someW P c.wi.toNat))) a b).1 = 1) ∧ ((∀ n ∈ l, n ∈ someW P c.wi.toNat) → (beforeOf (c.believe (fun x => memI x (someW P c.wi.toNat))) a b).1 = 1)
  sets : ∀ P : Nat → Bool, (beforeOf (c.believe (fun x => memI x (someW P c.wi.toNat))) a b).2 = 0 ∧ ((beforeOf (c.believe (fun x => memI x (someW P c.wi.toNat))) a b).1 = 1 → (beforeOf c a b).1 = 1)
theorem needed_ok {c : Cs} (h0 : checkC c = 0) (hf : Fine c.all) {a b : Nat} (ha : (a : Int) < c.ev) (hb : (b : Int) < c.ev) : NeededOK c a b := by
  have hw := wits h0
  have hev := checkC_ev h0
  have a8 : a < 8 := by omega
  have b8 : b < 8 := by omega
  have hask := asked_two h0 hf ha hb
  have hbel : ∀ tf, Fine (c.believe tf).all := fun tf => by
    rw [believe_all]
    exact fun v l hv hr => hf v l hv (hr.mono fun x hx => bel_mem' hx)
  have hset : ∀ P : Nat → Bool, beforeOf (c.believe (fun x => memI x (someW P c.wi.toNat))) a b = (verdictM (gapsM (fun x => memI x (someW P c.wi.toNat)) c) a b, 0) := fun P => by
    rw [before_is (believe_check h0 _) (hbel _) (c := c.believe _) ha hb, believe_gaps]
  have hall : gapsM (fun x => memI x (someW (fun _ => true) c.wi.toNat)) c = gapsM allT c := gaps_congr fun x hx => by
    have := hw x hx
    rw [mem_memI.2 (mem_someW.2 ⟨this.1, by omega, rfl⟩)]; rfl
  have hb1 : (beforeOf c a b).1 = 1 ↔ gapsM allT c b a < 0 := by
    rw [before_is h0 hf ha hb]; exact verdict_yes
  have hcode : neededC c a b = match fewL (neededP c a b) c.wi.toNat with | some _ => 0 | none => 6 := by
    unfold neededC
    rw [if_neg (by simpa using hask)]
    simp only [Int.toNat_natCast]
    rfl
  have hnp : ∀ l, neededP c a b l = true ↔ gapsM (fun n => memI n l) c b a < 0 := fun l => by
    unfold neededP
    rw [beq_iff_eq, verdict_yes]
  refine ⟨?_, ?_, fun l hl => ?_, fun P => ?_⟩
  · rw [hcode, hb1]
    rcases hq : fewL (neededP c a b) c.wi.toNat with _ | l
    · simp only
      constructor
      · intro h; omega
      · intro h
        have := fewL_none hq _ (someW_asc (fun _ => true) c.wi.toNat)
        rw [← Bool.not_eq_true, hnp, hall] at this
        exact absurd h this
    · simp only [true_iff]
      have := (hnp l).1 (fewL_some hq).2.1
      exact gap_mono h0 hf (fun _ _ _ => rfl) b8 a8 this
  · rw [hcode]
    rcases fewL (neededP c a b) c.wi.toNat with _ | l <;> simp
  · obtain ⟨h1, h2, h3⟩ := fewL_some hl
    refine ⟨h1, fun P => ⟨fun hy => ?_, fun e => ?_, fun hs => ?_⟩⟩
    · rw [hset] at hy
      rw [Bool.eq_false_iff]
      intro hfew
      have := h3 _ (someW_asc _ _) hfew
      rw [← Bool.not_eq_true, hnp] at this
      exact this (verdict_yes.1 hy)
    · rw [hset, e]
      exact verdict_yes.2 ((hnp l).1 h2)
    · rw [hset]
      refine verdict_yes.2 (gap_mono h0 hf (fun x _ hm => ?_) b8 a8 ((hnp l).1 h2))
      exact mem_memI.2 (hs x.w (mem_memI.1 hm))
  · rw [hset]
    refine ⟨rfl, fun hy => hb1.2 (gap_mono h0 hf (fun _ _ _ => rfl) b8 a8 (verdict_yes.1 hy))⟩
end Go.Proofs.Ytgnjhaomlbkgcaa

namespace Go.Proofs.Ytgnjhaomlbkgcaa
open Go Go.RowKit Go.Shelf
set_option linter.unusedVariables false
set_option linter.unusedSimpArgs false

theorem isnan_any (x : Int) (w : World) : Calls Try.prog 146 #[.int .i64 x] w fun e w' => e = .returned (.bool false) ∧ w' = w := by
  go_enter Try.func146, Try.ntmps146
  go_wp2
  go_ret
  exact ⟨ret_of (bool_of (by simp)), rfl⟩
theorem less_any (x y : Int) (w : World) : Calls Try.prog 130 #[.int .i64 x, .int .i64 y] w fun e w' => e = .returned (.bool (decide (x < y))) ∧ w' = w := by
  go_enter Try.func130, Try.ntmps130
  go_wp2_with fail
  refine (isnan_any x w).mono ?_
  rintro e w1 ⟨rfl, rfl⟩
  go_wp2
  go_ret
  exact ⟨rfl, rfl⟩
def cmpI (x y : Int) : Int := if x < y then -1 else if y < x then 1 else 0
theorem cmpI_any (x y : Int) (w : World) : Calls Try.prog 147 #[.int .i64 x, .int .i64 y] w fun e w' => e = .returned (.int .i64 (cmpI x y)) ∧ w' = w := by
  generalize hF : cmpI x y = F
  have HF : Hid ((if x < y then (-1 : Int) else if y < x then 1 else 0) = F) := hF
  clear hF
  go_enter Try.func147, Try.ntmps147
  go_wp2_with fail
  refine (isnan_any x w).mono ?_
  rintro e w1 ⟨rfl, rfl⟩
  go_wp2_with fail
  refine (isnan_any y _).mono ?_
  rintro e w2 ⟨rfl, rfl⟩
  by_cases h1 : x < y
  · have HQ : Hid ((-1 : Int) = F) := by have := HF.out; rw [if_pos h1] at this; exact this
    clear HF
    go_wp2
    go_ret
    exact ⟨ret_of (int_of HQ.out), rfl⟩
  · by_cases h2 : y < x
    · have HQ : Hid ((1 : Int) = F) := by have := HF.out; rw [if_neg h1, if_pos h2] at this; exact this
      have h3 : x > y := h2
      clear HF
      go_wp2
      go_ret
      exact ⟨ret_of (int_of HQ.out), rfl⟩
    · have HQ : Hid ((0 : Int) = F) := by have := HF.out; rw [if_neg h1, if_neg h2] at this; exact this
      have h3 : ¬ x > y := h2
      clear HF
      go_wp2
      go_ret
      exact ⟨ret_of (int_of HQ.out), rfl⟩

set_option maxRecDepth 100000 in
set_option maxHeartbeats 1000000 in
theorem issorted_any (A : Option Addr) (c0 : Nat) (l : List Int) (w : World) (hA : Ints w A l) (hl : l.length ≤ 1000000) (hs : l.Pairwise (· < ·)) :
    Calls Try.prog 71 #[.slice A l.length c0] w fun e w' => e = .returned (.bool true) ∧ Ext w w' := by
  have HS := hid (List.pairwise_iff_getElem.1 hs)
  clear hs
  go_enter Try.func71, Try.ntmps71
  go_wp2
  go_loopw [3] (fun i wr => ∃ k : Int, i = .int .i64 k ∧ -1 ≤ k ∧ k < (l.length : Int) ∧ Ext w wr) (fun i _ => (intOf i + 1).toNat)
  case atStart => exact ⟨(l.length : Int) - 1, by go_num, by omega, by omega, Ext.refl _⟩
  case round =>
    obtain ⟨k, rfl, hk1, hk2, hx⟩ := hrel
    by_cases hlt : k > 0
    · obtain ⟨n, rfl⟩ : ∃ n : Nat, k = (n : Int) + 1 := ⟨(k - 1).toNat, by omega⟩
      obtain ⟨x, hxn⟩ := get_of_lt l n (by omega)
      obtain ⟨y, hyn⟩ := get_of_lt l (n + 1) (by omega)
      have hxy : x < y := by
        have h := HS.out n (n + 1) (by omega) (by omega) (by omega)
        rw [(List.getElem?_eq_some_iff.1 hxn).2, (List.getElem?_eq_some_iff.1 hyn).2] at h
        exact h
      have hyx : decide (y < x) = false := by simp; omega
      obtain ⟨b, off, rfl, e0⟩ := Ints.at_ (Ints.ext hA hx) hxn
      obtain ⟨b', off', e', e1⟩ := Ints.at_ (Ints.ext hA hx) hyn
      cases e'
      have e2 : wr.cell? ⟨b, off + ((n : Int) + 1).toNat, none⟩ = some (.int .i64 y) := by rw [show ((n : Int) + 1).toNat = n + 1 by omega]; exact e1
      have FX : Hid (∀ w', Ext wr w' → w'.cell? ⟨b, off + n, none⟩ = some (.int .i64 x) ∧ w'.cell? ⟨b, off + (n + 1), none⟩ = some (.int .i64 y)) := fun w' h => ⟨h.cell e0, h.cell e1⟩
      have hi1 : (n : Int) + 1 < (l.length : Int) := hk2
      have hi2 : (n : Int) < (l.length : Int) := by omega
      have hw1 : IntKind.i64.wrap ((n : Int) + 1 - 1) = (n : Int) := by rw [show (n : Int) + 1 - 1 = n by omega]; exact IntWalk.i64_in _ ⟨by omega, by omega⟩
      have hw2 : IntKind.i64.wrap (n : Int) = (n : Int) := IntWalk.i64_in _ ⟨by omega, by omega⟩
      have ht : ((n : Int) + 1).toNat = n + 1 := by omega
      have hp1 : ¬ (n : Int) + 1 < 0 := by omega
      clear e0 e1 e2 hxn hyn
      go_wp2
      refine wp_region_opens Ext (fun w' => Ext wr w') (fun | 9 => some (fun v _ => v = .bool false) | _ => none) (by kernel_rfl) (by kernel_rfl) (fun _ _ h k => h.trans k) ?hT (Ext.drew (Ext.refl wr)) ?_
      case hT =>
        intro i R hR
        match i, hR with
        | 9, hR => cases hR; exact fun _ _ _ h _ => h
      refine wpM_val ?ua0 rfl rfl Ext.refl (fun w' hD => ?ha0) ?na0
      case ha0 =>
        obtain ⟨d0, d1⟩ := FX.out w' hD.1
        go_simp; rfl
      simp only [Act.put, List.setIfInBounds_toArray, List.set_cons_succ, List.set_cons_zero, Nat.reduceAdd]
      refine wpM_val ?ua1 rfl rfl Ext.refl (fun w' hD => ?ha1) ?na1
      case ha1 =>
        obtain ⟨d0, d1⟩ := FX.out w' hD.1
        go_simp; rfl
      simp only [Act.put, List.setIfInBounds_toArray, List.set_cons_succ, List.set_cons_zero, Nat.reduceAdd]
      refine wpM_val ?ua2 rfl rfl Ext.refl (fun w' hD => ?ha2) ?na2
      case ha2 =>
        obtain ⟨d0, d1⟩ := FX.out w' hD.1
        go_simp; rfl
      simp only [Act.put, List.setIfInBounds_toArray, List.set_cons_succ, List.set_cons_zero, Nat.reduceAdd]
      refine wpM_val ?ua3 rfl rfl Ext.refl (fun w' hD => ?ha3) ?na3
      case ha3 =>
        obtain ⟨d0, d1⟩ := FX.out w' hD.1
        go_simp; rfl
      simp only [Act.put, List.setIfInBounds_toArray, List.set_cons_succ, List.set_cons_zero, Nat.reduceAdd]
      refine wpM_val ?ua4 rfl rfl Ext.refl (fun w' hD => ?ha4) ?na4
      case ha4 =>
        obtain ⟨d0, d1⟩ := FX.out w' hD.1
        go_simp; rfl
      simp only [Act.put, List.setIfInBounds_toArray, List.set_cons_succ, List.set_cons_zero, Nat.reduceAdd]
      refine wpM_val ?ua5 rfl rfl Ext.refl (fun w' hD => ?ha5) ?na5
      case ha5 =>
        obtain ⟨d0, d1⟩ := FX.out w' hD.1
        go_simp; rfl
      simp only [Act.put, List.setIfInBounds_toArray, List.set_cons_succ, List.set_cons_zero, Nat.reduceAdd]
      refine wpM_val ?ua6 rfl rfl Ext.refl (fun w' hD => ?ha6) ?na6
      case ha6 =>
        obtain ⟨d0, d1⟩ := FX.out w' hD.1
        go_simp; rfl
      simp only [Act.put, List.setIfInBounds_toArray, List.set_cons_succ, List.set_cons_zero, Nat.reduceAdd]
      refine wpM_val ?ua7 rfl rfl Ext.refl (fun w' hD => ?ha7) ?na7
      case ha7 =>
        obtain ⟨d0, d1⟩ := FX.out w' hD.1
        go_simp; rfl
      simp only [Act.put, List.setIfInBounds_toArray, List.set_cons_succ, List.set_cons_zero, Nat.reduceAdd]
      refine wpM_val ?ua8 rfl rfl Ext.refl (fun w' hD => ?ha8) ?na8
      case ha8 =>
        obtain ⟨d0, d1⟩ := FX.out w' hD.1
        go_simp; rfl
      simp only [Act.put, List.setIfInBounds_toArray, List.set_cons_succ, List.set_cons_zero, Nat.reduceAdd]
      refine wpM_op _ rfl rfl (opens_call ?fa9 ?ga9 (fun w' hD => ?ha9) (fun w' hD => ?ca9)) (fun v9 hv9 => ?na9)
      case ha9 => go_simp; constructor <;> rfl
      case ca9 =>
        refine (less_any y x w').mono ?_
        rintro e w2 ⟨rfl, rfl⟩
        exact ⟨_, rfl, Ext.refl _, by rw [hyx]⟩
      obtain ⟨_, -, -, rfl⟩ := hv9
      simp only [Act.put, List.setIfInBounds_toArray, List.set_cons_succ, List.set_cons_zero, Nat.reduceAdd]
      refine wpM_nil ?_
      intro w9 hw9 hF9
      have hx9 := hx.trans hw9
      clear hF9 FX
      go_wp2
      go_roundw
      case rel => exact ⟨(n : Int), by go_num, by omega, by omega, hx9⟩
      case measure => simp [intOf]; omega
    · have hlt' : ¬ k > 0 := hlt
      go_wp2
      go_ret
      exact ⟨rfl, hx⟩

theorem cmpL_drop {l m : List Int} {k : Nat} {x y : Int} (hx : l[k]? = some x) (hy : m[k]? = some y) : cmpL (l.drop k) (m.drop k) = if x < y then -1 else if y < x then 1 else cmpL (l.drop (k + 1)) (m.drop (k + 1)) := by
  obtain ⟨h1, h2⟩ := List.getElem?_eq_some_iff.1 hx
  obtain ⟨h3, h4⟩ := List.getElem?_eq_some_iff.1 hy
  rw [List.drop_eq_getElem_cons h1, List.drop_eq_getElem_cons h3, h2, h4]
  rfl
theorem cmpL_more {l m : List Int} {k : Nat} (h1 : k < l.length) (h2 : m.length ≤ k) : cmpL (l.drop k) (m.drop k) = 1 := by
  rw [List.drop_eq_getElem_cons h1, List.drop_eq_nil_of_le h2]; rfl
theorem cmpL_end {l m : List Int} {k : Nat} (h1 : l.length ≤ k) (hk : k ≤ m.length) (hkl : k = l.length) : cmpL (l.drop k) (m.drop k) = if l.length < m.length then -1 else 0 := by
  rw [List.drop_eq_nil_of_le h1]
  by_cases h : l.length < m.length
  · rw [if_pos h, List.drop_eq_getElem_cons (show k < m.length by omega)]; rfl
  · rw [if_neg h, List.drop_eq_nil_of_le (show m.length ≤ k by omega)]; rfl

set_option maxRecDepth 100000 in
set_option maxHeartbeats 1000000 in
theorem compare_any (A : Option Addr) (c0 : Nat) (l : List Int) (A' : Option Addr) (c1 : Nat) (m : List Int) (w : World) (hA : Ints w A l) (hB : Ints w A' m) (hl : l.length ≤ 1000000) (hm : m.length ≤ 1000000) :
    Calls Try.prog 132 #[.slice A l.length c0, .slice A' m.length c1] w fun e w' => e = .returned (.int .i64 (cmpL l m)) ∧ w' = w := by
  generalize hF : cmpL l m = F
  have HF : Hid (cmpL (l.drop 0) (m.drop 0) = F) := hF
  clear hF
  have HA := hid hA
  have HB := hid hB
  clear hA hB
  go_enter Try.func132, Try.ntmps132
  go_wp2
  go_loop [11] (fun i => ∃ k : Nat, i = .int .i64 (k : Int) ∧ k ≤ l.length ∧ k ≤ m.length ∧ Hid (cmpL (l.drop k) (m.drop k) = F)) (fun i => l.length - (intOf i).toNat)
  case atStart => exact ⟨0, rfl, Nat.zero_le _, Nat.zero_le _, HF⟩
  case round =>
    obtain ⟨k, rfl, hk1, hk2, HF⟩ := hrel
    by_cases hlt : k < l.length
    · have hlt' : (k : Int) < (l.length : Int) := by omega
      obtain ⟨x, hx⟩ := get_of_lt l k hlt
      obtain ⟨b, off, rfl, e0⟩ := Ints.at_ HA.out hx
      by_cases hlt2 : k < m.length
      · have hlt2' : (k : Int) < (m.length : Int) := by omega
        have hlt3 : ¬ (m.length : Int) ≤ (k : Int) := by omega
        obtain ⟨y, hy⟩ := get_of_lt m k hlt2
        obtain ⟨b', off', rfl, e1⟩ := Ints.at_ HB.out hy
        have HD : Hid ((if x < y then -1 else if y < x then 1 else cmpL (l.drop (k + 1)) (m.drop (k + 1))) = F) := by
          unfold Hid; rw [← cmpL_drop hx hy]; exact HF.out
        clear hx hy HF
        go_wp2_with fail
        refine (cmpI_any x y w).mono ?_
        rintro e w2 ⟨rfl, rfl⟩
        unfold cmpI
        by_cases h1 : x < y
        · have HQ : Hid ((-1 : Int) = F) := by have := HD.out; rw [if_pos h1] at this; exact this
          rw [if_pos h1]
          clear HD
          go_wp2
          go_ret
          exact ⟨ret_of (int_of HQ.out), rfl⟩
        · rw [if_neg h1]
          by_cases h2 : y < x
          · have HQ : Hid ((1 : Int) = F) := by have := HD.out; rw [if_neg h1, if_pos h2] at this; exact this
            rw [if_pos h2]
            clear HD
            go_wp2
            go_ret
            exact ⟨ret_of (int_of HQ.out), rfl⟩
          · have HQ : Hid (cmpL (l.drop (k + 1)) (m.drop (k + 1)) = F) := by have := HD.out; rw [if_neg h1, if_neg h2] at this; exact this
            rw [if_neg h2]
            clear HD
            go_wp2
            go_round
            case rel => exact ⟨k + 1, by go_num, by omega, by omega, HQ⟩
            case measure => simp [intOf]; omega
      · have hlt2' : ¬ (k : Int) < (m.length : Int) := by omega
        have hlt3 : (m.length : Int) ≤ (k : Int) := by omega
        have HQ : Hid ((1 : Int) = F) := by unfold Hid; rw [← HF.out, cmpL_more hlt (by omega)]
        clear HF hx
        go_wp2
        go_ret
        exact ⟨ret_of (int_of HQ.out), rfl⟩
    · have hlt' : ¬ (k : Int) < (l.length : Int) := by omega
      have HQ0 := HF.out
      rw [cmpL_end (by omega) hk2 (by omega)] at HQ0
      by_cases h : l.length < m.length
      · have h' : (l.length : Int) < (m.length : Int) := by omega
        rw [if_pos h] at HQ0
        have HQ := hid HQ0
        clear HF HQ0
        go_wp2
        go_ret
        exact ⟨ret_of (int_of HQ.out), rfl⟩
      · have h' : ¬ (l.length : Int) < (m.length : Int) := by omega
        rw [if_neg h] at HQ0
        have HQ := hid HQ0
        clear HF HQ0
        go_wp2
        go_ret
        exact ⟨ret_of (int_of HQ.out), rfl⟩

set_option maxRecDepth 100000 in
set_option maxHeartbeats 1000000 in
theorem fewer_any (A : Option Addr) (c0 : Nat) (l : List Int) (A' : Option Addr) (c1 : Nat) (m : List Int) (w : World) (hA : Ints w A l) (hB : Ints w A' m) (hl : l.length ≤ 1000000) (hm : m.length ≤ 1000000) :
    Calls Try.prog 74 #[.slice A l.length c0, .slice A' m.length c1] w fun e w' => e = .returned (.bool (fewerL l m)) ∧ w' = w := by
  generalize hF : fewerL l m = F
  have HF : Hid ((decide (l.length < m.length) || (l.length == m.length && decide (cmpL l m < 0))) = F) := hF
  clear hF
  go_enter Try.func74, Try.ntmps74
  by_cases h1 : l.length < m.length
  · have h1' : (l.length : Int) < (m.length : Int) := by omega
    have HQ : Hid (true = F) := by unfold Hid; rw [← HF.out, decide_eq_true h1]; rfl
    clear HF
    go_wp2
    go_ret
    exact ⟨ret_of (bool_of HQ.out), rfl⟩
  · have h1' : ¬ (l.length : Int) < (m.length : Int) := by omega
    by_cases h2 : l.length = m.length
    · have h2' : ((l.length : Int) == (m.length : Int)) = true := by simp [h2]
      have HQ : Hid (decide (cmpL l m < 0) = F) := by unfold Hid; rw [← HF.out, decide_eq_false h1, h2]; simp
      clear HF h2
      go_wp2_with fail
      refine (compare_any A c0 l A' c1 m w hA hB hl hm).mono ?_
      rintro e w2 ⟨rfl, rfl⟩
      go_wp2
      go_ret
      exact ⟨ret_of (bool_of HQ.out), rfl⟩
    · have h2' : ((l.length : Int) == (m.length : Int)) = false := by simp; omega
      have HQ : Hid (false = F) := by
        have h3 : (l.length == m.length) = false := by simpa using h2
        unfold Hid; rw [← HF.out, decide_eq_false h1, h3]; rfl
      clear HF
      go_wp2
      go_ret
      exact ⟨ret_of (bool_of HQ.out), rfl⟩
end Go.Proofs.Ytgnjhaomlbkgcaa

namespace Go.Proofs.Ytgnjhaomlbkgcaa
open Go Go.RowKit Go.Shelf
set_option linter.unusedVariables false
set_option linter.unusedSimpArgs false

theorem run_clear_own {P : Program} (w : World) (sT elem e : TypeId) (z : Value) {B n cap g sz : Nat} {zs : List Value} (hu : P.underlying sT = some (.slice elem)) (hz : ∀ w, (zeroValue elem).run P w = .ok z w) (hzs : z.cells.size = sz) (hz1 : ∀ v ∈ z.cells, v.oneCell' = true)
    (hown : w.ownsRow B e sz (.slice (some ⟨g, 0, none⟩) n cap) n zs) (i c : Nat) (hi : i < n) (hsz : 0 < sz) :
    ∃ w', (∀ ty, (Builtin.clear_ #[sT] ty #[.slice (some ⟨g, i * sz, none⟩) (n - i) c]).run P w = .ok (.tuple #[]) w') ∧ BelS (fun k => k = g) w w' ∧
      ∃ ys, ys.length = (n - i) * sz ∧ w'.ownsRow B e sz (.slice (some ⟨g, 0, none⟩) n cap) n (zs.take (i * sz) ++ ys) := by
  rcases hown.2 with ⟨h, _⟩ | ⟨g', cap', cur, h, hb, hg, hnc, hcm, hcs, htake⟩
  · cases h
  · cases h
    obtain ⟨k, hk⟩ : ∃ k, n - i = k + 1 := ⟨n - i - 1, by omega⟩
    have hlen : ((Builtin.zeroCells z.cells (n - i)).toList).length = (n - i) * sz := by rw [Array.length_toList, size_zeroCells, hzs]
    have hone : ∀ v ∈ (Builtin.zeroCells z.cells (n - i)).toList, v.oneCell' = true := by
      intro v hv
      unfold Builtin.zeroCells at hv
      simp only [Array.toList_map, List.mem_map] at hv
      obtain ⟨j, hj, rfl⟩ := hv
      have hlt : j % z.cells.size < z.cells.size := Nat.mod_lt _ (by omega)
      rw [getElem!_pos z.cells _ hlt]
      exact hz1 _ (Array.getElem_mem hlt)
    have hni : i * sz + (n - i) * sz = n * sz := by rw [← Nat.add_mul]; congr 1; omega
    have hNc : n * sz ≤ cap * sz := Nat.mul_le_mul_right sz hnc
    have hfit : i * sz + 0 + ((Builtin.zeroCells z.cells (n - i)).toList).length ≤ cur.size := by rw [hlen]; omega
    have hst := run_storeCells_at P g (i * sz) e _ 0 cur w hg hfit hone
    generalize hvs : (Builtin.zeroCells z.cells (n - i)).toList = vs at *
    refine ⟨w.setRow g (cur.toList.take (i * sz + 0) ++ vs ++ cur.toList.drop (i * sz + 0 + vs.length)).toArray, fun ty => ?_, ?_, vs, hlen, ⟨?_, .inr ⟨g, cap, _, rfl, hb, setRow_heap w g cur _ e (0, 0) hg, hnc, hcm, ?_, ?_⟩⟩⟩
    · rw [hk] at hvs ⊢
      simp [Builtin.clear_, run_underlying hu, hz, hvs, hst]
    · exact ⟨⟨rfl, rfl, rfl, by simp, fun k hk => absurd hk (Nat.not_lt_zero _)⟩, fun k _ hk => setRow_other w g k _ hk⟩
    · rw [List.length_append, List.length_take, hown.1, hlen, Nat.min_eq_left (by omega)]; exact hni
    · simp only [List.size_toArray, List.length_append, List.length_take, List.length_drop, Array.length_toList, hlen, Nat.add_zero]
      omega
    · simp only [Nat.add_zero]
      have hA : (cur.toList.take (i * sz)).length = i * sz := by rw [List.length_take, Array.length_toList]; omega
      have hX : (cur.toList.take (i * sz) ++ vs).length = n * sz := by rw [List.length_append, hA, hlen]; exact hni
      rw [← htake, List.take_take, Nat.min_eq_left (by omega), List.take_left' hX]

theorem ClW.take {w : World} {B : Nat} : ∀ {xs : List Value} {l : List Cl} (k : Nat), ClW w B xs l → ClW w B (xs.take (k * 2)) (l.take k)
  | [], [], k, _ => by simp [ClW]
  | _ :: _ :: xs, _ :: l, 0, _ => trivial
  | _ :: _ :: xs, _ :: l, k + 1, ⟨h1, h2, h3⟩ => by
    have e : (k + 1) * 2 = k * 2 + 1 + 1 := by omega
    rw [e]
    exact ⟨h1, h2, ClW.take k h3⟩
  | [_], _, _, h => by cases ‹List Cl› <;> exact h.elim
theorem ClW.get {w : World} {B : Nat} : ∀ {xs : List Value} {l : List Cl}, ClW w B xs l → ∀ (k : Nat) (x : Cl), l[k]? = some x →
    xs[k * 2]? = some (.int .i64 x.w) ∧ ∃ A c, xs[k * 2 + 1]? = some (.slice A x.bs.length c) ∧ w.ownsRow B 35 3 (.slice A x.bs.length c) x.bs.length (bcells x.bs)
  | [], [], _, k, x, hk => by simp at hk
  | a :: b :: xs, y :: l, ⟨h1, ⟨A, c, h2, h3⟩, h4⟩, k, x, hk => by
    cases k with
    | zero =>
      simp at hk; subst hk
      exact ⟨by simp [h1], A, c, by simp [h2], h3⟩
    | succ k =>
      have := ClW.get h4 k x (by simpa using hk)
      have e : (k + 1) * 2 = k * 2 + 1 + 1 := by omega
      rw [e]
      simp only [List.getElem?_cons_succ]
      exact this
  | [_], _, h, _, _, _ => by cases ‹List Cl› <;> exact h.elim
theorem idxF_some {α : Type} (p : α → Bool) : ∀ (l : List α) (i : Nat), idxF p l i = -1 ∧ (∀ x ∈ l, p x = false) ∨ ∃ k x, idxF p l i = ((i + k : Nat) : Int) ∧ l[k]? = some x ∧ p x = true ∧ ∀ y ∈ l.take k, p y = false := by
  intro l
  induction l with
  | nil => intro i; exact .inl ⟨rfl, fun x h => by cases h⟩
  | cons x l ih =>
    intro i
    unfold idxF
    cases hp : p x
    · rcases ih (i + 1) with ⟨h1, h2⟩ | ⟨k, y, h1, h2, h3, h4⟩
      · left
        refine ⟨by simpa using h1, fun y hy => ?_⟩
        rcases List.mem_cons.1 hy with rfl | hy
        · exact hp
        · exact h2 y hy
      · right
        refine ⟨k + 1, y, ?_, by simpa using h2, h3, fun z hz => ?_⟩
        · rw [if_neg (by simp), h1]; congr 1; omega
        · rw [List.take_succ_cons] at hz
          rcases List.mem_cons.1 hz with rfl | hz
          · exact hp
          · exact h4 z hz
    · right
      exact ⟨0, x, by simp, rfl, hp, fun y hy => by simp at hy⟩
theorem Kc.below {a w w' : World} {B : Nat} (h : Kc a w) (hx : Below B w w') (hB : a.heap.size ≤ B) : Kc a w' := fun p u hp => by
  have hlt := World.block_lt_of_cell? a p hp
  exact (Below.cell hx (by omega)).trans (h p u hp)
theorem keep_filter {α : Type} {p : α → Bool} {l : List α} {j : Nat} {x : α} (hj : l[j]? = some x) : (l.take (j + 1)).filter (fun x => !p x) = (l.take j).filter (fun x => !p x) ++ if p x then [] else [x] := by
  obtain ⟨h1, h2⟩ := List.getElem?_eq_some_iff.1 hj
  rw [List.take_succ_eq_append_getElem h1, h2, List.filter_append]
  congr 1
  cases hp : p x <;> simp [hp]

theorem own_take {w : World} {B e sz g n cap : Nat} {zs : List Value} (h : w.ownsRow B e sz (.slice (some ⟨g, 0, none⟩) n cap) n zs) {a : Nat} (ha : a ≤ n) : w.ownsRow B e sz (.slice (some ⟨g, 0, none⟩) a cap) a (zs.take (a * sz)) := by
  have hm : a * sz ≤ n * sz := Nat.mul_le_mul_right sz ha
  refine ⟨by rw [List.length_take, h.1]; omega, ?_⟩
  rcases h.2 with ⟨h', _⟩ | ⟨g', cap', cur, h', hb, hg, hnc, hcm, hcs, htake⟩
  · cases h'
  · cases h'
    exact .inr ⟨g, cap, cur, rfl, hb, hg, Nat.le_trans ha hnc, hcm, hcs, by rw [← htake, List.take_take, Nat.min_eq_left hm]⟩

theorem BelS.below {w w' : World} {g B : Nat} (h : BelS (fun k => k = g) w w') (hB : B ≤ g) (hw : B ≤ w.heap.size) : Below B w w' := by
  obtain ⟨⟨k1, k2, k3, k4, _⟩, k5⟩ := h
  exact ⟨k1, k2, k3, k4, fun i hi => k5 i (by omega) (by omega)⟩
theorem take_set2 {zs : List Value} {a : Nat} (u v : Value) (h : (a + 1) * 2 ≤ zs.length) : ((zs.set (a * 2) u).set (a * 2 + 1) v).take ((a + 1) * 2) = zs.take (a * 2) ++ [u, v] := by
  apply List.ext_getElem?
  intro i
  rw [List.getElem?_take]
  by_cases h1 : i < a * 2
  · rw [if_pos (by omega), List.getElem?_set_ne (by omega), List.getElem?_set_ne (by omega), List.getElem?_append_left (by simp; omega), List.getElem?_take, if_pos h1]
  · rw [List.getElem?_append_right (by simp; omega)]
    have hl : (zs.take (a * 2)).length = a * 2 := by simp; omega
    rw [hl]
    by_cases h2 : i = a * 2
    · subst h2
      rw [if_pos (by omega), List.getElem?_set_ne (by omega), List.getElem?_set_self (by omega), Nat.sub_self]; rfl
    · by_cases h3 : i = a * 2 + 1
      · subst h3
        rw [if_pos (by omega), List.getElem?_set_self (by simp; omega), show a * 2 + 1 - a * 2 = 1 by omega]; rfl
      · rw [if_neg (by omega), List.getElem?_eq_none (by simp; omega)]

def DelPost (B : Nat) (p : Cl → Bool) (l : List Cl) (w : World) (e : Ending) (w' : World) : Prop :=
  ∃ A2 c2 ys, e = .returned (.slice A2 (l.filter fun x => !p x).length c2) ∧ w'.ownsRow B 37 2 (.slice A2 (l.filter fun x => !p x).length c2) (l.filter fun x => !p x).length ys ∧ ClW w' B ys (l.filter fun x => !p x) ∧ Below B w w'

set_option maxRecDepth 100000 in
set_option maxHeartbeats 4000000 in
theorem deleteClaim_any (B : Nat) (A : Option Addr) (c' : Nat) (l : List Cl) (xs : List Value) (fv : Value) (p : Cl → Bool) (w0 w : World) (hown : w.ownsRow B 37 2 (.slice A l.length c') l.length xs) (hC : ClW w B xs l)
    (hfv : FnP Try.prog fv w0 ClR anyx p) (hk : Kc w0 w) (hB : w0.heap.size ≤ B) (hBw : B ≤ w.heap.size) (hl : l.length ≤ 1000) :
    Calls Try.prog 127 #[.slice A l.length c', fv] w (DelPost B p l w) := by
  obtain ⟨gf, fst, lb, hfe, eg, hcall⟩ := hfv
  have HFV : Hid (FnP Try.prog fv w0 ClR anyx p) := ⟨gf, fst, lb, hfe, eg, hcall⟩
  have HC := hid hcall
  have HKC := hid hk
  have HCL : Hid (Claims w A l) := ⟨xs, Rd.of_own hown, hC.toC⟩
  have O0 := hid hown
  have C0 := hid hC
  have HF := hid (idxF_some p l 0)
  clear hcall hk hown hC
  subst hfe
  go_enter Try.func127, Try.ntmps127
  go_wp2_with fail
  refine (indexFunc_claim A c' l _ anyx p w HCL.out (by omega) (anyx_all l) (HFV.out.kc HKC.out)).mono ?_
  rintro e w1 ⟨rfl, hx1⟩
  rcases HF.out with ⟨h1, h2⟩ | ⟨k, x, h1, h2, h3, h4⟩
  · have hfl : l.filter (fun x => !p x) = l := List.filter_eq_self.2 fun x hx => by rw [h2 x hx]; rfl
    have HFL := hid hfl
    rw [h1]
    clear h1 h2 hfl HF
    go_wp2
    go_ret
    exact ⟨A, c', xs, (by rw [HFL.out]; rfl), by rw [HFL.out]; exact own_below O0.out hx1, by rw [HFL.out]; exact C0.out.ext hx1, Below.mono hx1 hBw⟩
  · rw [h1, Nat.zero_add]
    have hkl : k < l.length := (List.getElem?_eq_some_iff.1 h2).1
    have hst : (l.take (k + 1)).filter (fun x => !p x) = l.take k := by
      rw [keep_filter h2, h3, if_pos rfl, List.append_nil]
      exact List.filter_eq_self.2 fun x hx => by rw [h4 x hx]; rfl
    obtain ⟨g, hg⟩ : ∃ g, A = some ⟨g, 0, none⟩ := by
      rcases O0.out.2 with ⟨_, h0⟩ | ⟨g, _, _, h, _⟩
      · omega
      · cases h; exact ⟨g, rfl⟩
    subst hg
    have HST := hid hst
    have O1 := hid (own_below O0.out hx1)
    have C1 := hid (C0.out.ext hx1)
    have b1 : Below B w w1 := Below.mono hx1 hBw
    have hkw : IntKind.i64.wrap ((k : Int) + 1) = (k : Int) + 1 := IntWalk.i64_in _ ⟨by omega, by omega⟩
    have hk1 : ¬ (k : Int) = -1 := by omega
    have hk2 : ((k : Int) == -1) = false := by simp
    have S1 : Hid (ClW w1 B (xs.take (k * 2)) ((l.take (k + 1)).filter fun x => !p x)) := by
      unfold Hid; rw [HST.out]; exact C1.out.take k
    have L1 : Hid (((l.take (k + 1)).filter fun x => !p x).length = k) := by
      unfold Hid; rw [HST.out]; simp; omega
    clear h1 h2 h3 h4 hst hx1 HF HCL HFV HST C0 O0
    go_wp2
    go_loopw [5, 6, 7] (fun i j _ wr => ∃ (a b : Nat) (zs : List Value), i = .int .i64 (a : Int) ∧ j = .int .i64 (b : Int) ∧ a < b ∧ b ≤ l.length ∧ Hid (wr.ownsRow B 37 2 (.slice (some ⟨g, 0, none⟩) l.length c') l.length zs) ∧ Hid (ClW wr B (zs.take (a * 2)) ((l.take b).filter fun x => !p x)) ∧
        Hid (((l.take b).filter fun x => !p x).length = a) ∧ Hid (∀ q, 2 * b ≤ q → zs[q]? = xs[q]?) ∧ Hid (ClW wr B xs l) ∧ Below B w wr) (fun _ j _ _ => l.length - (intOf j).toNat)
    case atStart => exact ⟨k, k + 1, xs, rfl, by go_num, by omega, by omega, O1, S1, L1, fun _ _ => rfl, C1, b1⟩
    case round =>
      obtain ⟨a, b, zs, rfl, rfl, hab, hbl, O2, S2, L2, Z2, C2, hb2⟩ := hrel
      by_cases hlt : b < l.length
      · have hlt' : (b : Int) < (l.length : Int) := by omega
        obtain ⟨x, hx⟩ := get_of_lt l b hlt
        obtain ⟨g0, A3, k3, g1, hrow⟩ := C2.out.get b x hx
        have c0 := O2.out.cellAt (b * 2) (by omega)
        have c1 := O2.out.cellAt (b * 2 + 1) (by omega)
        rw [Z2.out _ (by omega), g0] at c0
        rw [Z2.out _ (by omega), g1] at c1
        have HKF := hid (keep_filter (p := p) hx)
        have HROW := hid hrow
        have xo := Ext.alloc (Ext.refl wr) (.cells #[.int .i64 x.w, .slice A3 x.bs.length k3] 37)
        have hkk : Kc w0 (wr.alloc (.cells #[.int .i64 x.w, .slice A3 x.bs.length k3] 37)) := (HKC.out.below hb2 hB).trans xo.kc
        have K := HC.out x (.agg #[.int .i64 x.w, .slice A3 x.bs.length k3]) _ trivial hkk ⟨A3, k3, rfl, Rd.of_own (own_below hrow xo)⟩
        have HK := hid K
        have hszB : B ≤ wr.heap.size := by have := hb2.size; omega
        clear hx g0 g1 hrow hkk K
        go_wp2_with fail
        refine HK.out.mono ?_
        rintro e w9 ⟨rfl, hx9⟩
        have xx := xo.trans hx9
        have b9 : Below B w w9 := hb2.trans (Below.mono xx hszB)
        have O9 := hid (own_below O2.out xx)
        have S9 := hid (S2.out.ext xx)
        have C9 := hid (C2.out.ext xx)
        have z0 := hx9.cell (p := ⟨wr.heap.size, 0, none⟩) (u := .int .i64 x.w) (by simp [go_sem])
        have z1 := hx9.cell (p := ⟨wr.heap.size, 1, none⟩) (u := .slice A3 x.bs.length k3) (by simp [go_sem])
        have hbw : IntKind.i64.wrap ((b : Int) + 1) = (b : Int) + 1 := IntWalk.i64_in _ ⟨by omega, by omega⟩
        have haw : IntKind.i64.wrap ((a : Int) + 1) = (a : Int) + 1 := IntWalk.i64_in _ ⟨by omega, by omega⟩
        cases hp : p x
        · have L9 : Hid (((l.take (b + 1)).filter fun x => !p x).length = a + 1) := by
            unfold Hid; rw [HKF.out, hp, List.length_append, L2.out]; simp
          have HKF2 : Hid ((l.take (b + 1)).filter (fun x => !p x) = (l.take b).filter (fun x => !p x) ++ [x]) := by
            unfold Hid; rw [HKF.out, hp]; rfl
          have RX := hid (own_below HROW.out xx)
          have ha1 : (a : Int) < (l.length : Int) := by omega
          have f := O9.out.frozenAt
          have f0 := f (a * 2)
          have f1 := f (a * 2 + 1)
          have d0 := O9.out.cellAt (a * 2) (by omega)
          have d1 := O9.out.cellAt (a * 2 + 1) (by omega)
          have hzl : zs.length = l.length * 2 := O9.out.1
          rw [List.getElem?_eq_getElem (show a * 2 < zs.length by omega)] at d0
          rw [List.getElem?_eq_getElem (show a * 2 + 1 < zs.length by omega)] at d1
          clear HKF hp S2 C2 O2 HROW HK xo c0 c1 f hx9
          go_wp2
          have hT2 := own_ty O9.out
          have hgB := O9.out.lt g rfl
          have xg : BelS (fun k => k = g) w9 ((w9.setCell ⟨g, a * 2, none⟩ (.int .i64 x.w)).setCell ⟨g, a * 2 + 1, none⟩ (.slice A3 x.bs.length k3)) := ((BelS.refl _ w9).setCell (S := fun k => k = g) ⟨g, a * 2, none⟩ _ rfl).setCell ⟨g, a * 2 + 1, none⟩ _ rfl
          have N2 := hid (((O9.out.stored (a * 2) (.int .i64 x.w)).1).stored (a * 2 + 1) (.slice A3 x.bs.length k3)).1
          have NS : Hid (ClW ((w9.setCell ⟨g, a * 2, none⟩ (.int .i64 x.w)).setCell ⟨g, a * 2 + 1, none⟩ (.slice A3 x.bs.length k3)) B (((zs.set (a * 2) (.int .i64 x.w)).set (a * 2 + 1) (.slice A3 x.bs.length k3)).take ((a + 1) * 2)) ((l.take (b + 1)).filter fun x => !p x)) := by
            unfold Hid
            rw [HKF2.out, take_set2 _ _ (by omega)]
            exact ClW.app (m := [x]) (S9.out.keep fun v n ys ho => own_apart xg hT2 ho) ⟨rfl, ⟨A3, k3, rfl, own_apart xg hT2 RX.out⟩, trivial⟩
          have NZ : Hid (∀ q, 2 * (b + 1) ≤ q → ((zs.set (a * 2) (.int .i64 x.w)).set (a * 2 + 1) (.slice A3 x.bs.length k3))[q]? = xs[q]?) := fun q hq => by
            rw [List.getElem?_set_ne (by omega), List.getElem?_set_ne (by omega)]; exact Z2.out q (by omega)
          have NC : Hid (ClW ((w9.setCell ⟨g, a * 2, none⟩ (.int .i64 x.w)).setCell ⟨g, a * 2 + 1, none⟩ (.slice A3 x.bs.length k3)) B xs l) := C9.out.keep fun v n ys ho => own_apart xg hT2 ho
          have nb : Below B w ((w9.setCell ⟨g, a * 2, none⟩ (.int .i64 x.w)).setCell ⟨g, a * 2 + 1, none⟩ (.slice A3 x.bs.length k3)) := b9.trans (xg.below (by omega) (by omega))
          clear xg hgB hT2
          go_roundw
          case rel => exact ⟨a + 1, b + 1, _, by go_num, by go_num, by omega, by omega, N2, NS, L9, NZ, NC, nb⟩
          case measure => simp [intOf]; omega
        · have L9 : Hid (((l.take (b + 1)).filter fun x => !p x).length = a) := by
            unfold Hid; rw [HKF.out, hp, if_pos rfl, List.append_nil, L2.out]
          have S10 : Hid (ClW w9 B (zs.take (a * 2)) ((l.take (b + 1)).filter fun x => !p x)) := by
            unfold Hid; rw [HKF.out, hp, if_pos rfl, List.append_nil]; exact S9.out
          clear HKF hp S2 C2 O2 S9 HROW HK xo c0 c1 z0 z1 hx9
          go_wp2
          go_roundw
          case rel => exact ⟨a, b + 1, zs, rfl, by go_num, by omega, by omega, O9, S10, L9, fun q hq => Z2.out q (by omega), C9, b9⟩
          case measure => simp [intOf]; omega
      · have hlt' : ¬ (b : Int) < (l.length : Int) := by omega
        have hbe : b = l.length := by omega
        have hL2 := L2.out
        have hS2 := S2.out
        rw [hbe, List.take_length] at hL2 hS2
        obtain ⟨W9, hcl, hB9, ys, hys, hO9⟩ := run_clear_own (P := Try.prog) (sz := 2) wr 24 37 37 (.agg #[.int .i64 0, .slice none 0 0]) Try.underlying24 (fun w => by kernel_rfl) rfl (by intro v hv; simp [Value.cells] at hv; rcases hv with rfl | rfl <;> rfl) O2.out a (c' - a) (show a < l.length by omega) (show 0 < 2 by decide)
        have HS := hid hS2
        have HL := hid hL2
        have HO9 := hid hO9
        have hgB := O2.out.lt g rfl
        have hT2 := own_ty O2.out
        have bf : Below B w W9 := hb2.trans (hB9.below (by have := hgB.1; omega) (by have := hgB.2; have := hgB.1; omega))
        have SF : Hid (ClW W9 B (zs.take (a * 2)) (l.filter fun x => !p x)) := HS.out.keep fun v n ys ho => own_apart hB9 hT2 ho
        have ha1 : (a : Int) ≤ (l.length : Int) := by omega
        have ha0 : ¬ (a : Int) < 0 := by omega
        have hac : a ≤ c' := by
          rcases O2.out.2 with ⟨h, _⟩ | ⟨_, cap', _, h, _, _, hnc, _⟩
          · cases h
          · cases h; omega
        have hac' : (a : Int) ≤ (c' : Int) := by omega
        have hlc' : (l.length : Int) ≤ (c' : Int) := by
          rcases O2.out.2 with ⟨h, _⟩ | ⟨_, cap', _, h, _, _, hnc, _⟩
          · cases h
          · cases h; omega
        clear hS2 hL2 hO9 hys S2 L2 Z2 C2 hgB hB9
        have hcl0 := hcl 0
        go_wp2
        go_ret
        have hOT := own_take HO9.out (a := a) (by omega)
        rw [List.take_append_of_le_length (by have := O2.out.1; rw [List.length_take]; omega), List.take_take, Nat.min_self] at hOT
        exact ⟨some ⟨g, 0, none⟩, c', zs.take (a * 2), (by rw [HL.out]; rfl), by rw [HL.out]; exact hOT, SF.out, bf⟩
end Go.Proofs.Ytgnjhaomlbkgcaa

namespace Go.Proofs.Ytgnjhaomlbkgcaa
open Go Go.RowKit Go.Shelf
set_option linter.unusedVariables false
set_option linter.unusedSimpArgs false

/-- The error of a list of witnesses: 1 one that is none, 5 one that is there twice, 0. -/
def witE (wi : Int) : List Int → List Int → Int
  | _, [] => 0
  | pre, n :: r => if !inB n 0 (wi - 1) then 1 else if memI n pre then 5 else witE wi (pre ++ [n]) r
def believeC (c : Cs) (W : List Int) : Int := if checkC c ≠ 0 then checkC c else witE c.wi [] W
theorem witE_asc {wi : Nat} : ∀ {W : List Int} {k : Nat} {pre : List Int}, Asc k wi W → (∀ x ∈ pre, x < k) → witE wi pre W = 0 := by
  intro W
  induction W with
  | nil => intro k pre _ _; rfl
  | cons n W ih =>
    intro k pre h hp
    obtain ⟨h1, h2, h3⟩ := h
    unfold witE
    have e1 : inB n 0 ((wi : Int) - 1) = true := inB_iff.2 ⟨by omega, by omega⟩
    have e2 : memI n pre = false := by
      rw [Bool.eq_false_iff]; intro hm
      have := hp n (mem_memI.1 hm)
      omega
    rw [e1, e2]
    refine ih h3 fun x hx => ?_
    rcases List.mem_append.1 hx with hx | hx
    · have := hp x hx; omega
    · simp at hx; subst hx; omega
def BelPost (w : World) (c : Cs) (W : List Int) (e : Ending) (w' : World) : Prop :=
  ∃ r, e = .returned (.tuple #[r, .int .i64 (believeC c W)]) ∧ Ext w w' ∧ (believeC c W ≠ 0 → r = zeroCs) ∧ (believeC c W = 0 → FreshCs w' w.heap.size r (c.believe fun x => memI x W))

theorem believe1_fn (w : World) (B : Nat) (A : Option Addr) (k : Nat) (l : List Int) (hB : w.cell? ⟨B, 0, none⟩ = some (.slice A l.length k)) (hA : Ints w A l) (hl : l.length ≤ 9223372036854775807) :
    FnP Try.prog (.func (.func 128) #[] #[.pointer (some ⟨B, 0, none⟩)]) w ClR anyx (fun x => !memI x.w l) := by
  refine ⟨_, _, _, rfl, enters_of Try.func128 (by kernel_rfl) rfl, fun x v2 W _ hW hR => ?_⟩
  obtain ⟨A2, k2, rfl, _⟩ := hR
  have hxa : Ext W (W.alloc (.cells #[.int .i64 x.w, .slice A2 x.bs.length k2] 37)) := Ext.alloc (Ext.refl W) _
  have hcell := hxa.cell (hW.cell hB)
  show Calls _ _ #[_, _] _ _
  go_enter Try.func128, Try.ntmps128
  go_wp2_with fail
  refine (containsI_any x.w A k l _ ((hA.kc hW).ext hxa) hl).mono ?_
  rintro e w1 ⟨rfl, rfl⟩
  go_wp2
  go_ret
  exact ⟨rfl, hxa⟩

set_option maxRecDepth 100000 in
set_option maxHeartbeats 4000000 in
theorem believe_any (v : Value) (c : Cs) (A : Option Addr) (k0 : Nat) (W : List Int) (w : World) (hc : CsR w v c) (hs : c.sized) (hA : Ints w A W) (hl : W.length ≤ 1000000) (hcap : W.length ≤ k0) :
    Calls Try.prog 66 #[v, .slice A W.length k0] w (BelPost w c W) := by
  have hc' := hc
  obtain ⟨A1, c1, A2, c2, rfl, hB, hC⟩ := hc
  obtain ⟨T, hT⟩ : ∃ T, believeC c W = T := ⟨_, rfl⟩
  have HT := hid hT
  unfold believeC at hT
  have HT2 := hid hT
  clear hT
  go_enter Try.func66, Try.ntmps66
  go_wp2_with fail
  have x0 := Ext.alloc (Ext.alloc (Ext.alloc (Ext.refl w) (.cells #[.int .i64 c.ev, .slice A1 c.bs.length c1, .int .i64 c.wi, .slice A2 c.cl.length c2] 26)) (.cells #[.slice A W.length k0] 27)) (.cells #[.int .i64 0, .slice none 0 0, .int .i64 0, .slice none 0 0] 26)
  have hz0 : (((w.alloc (.cells #[.int .i64 c.ev, .slice A1 c.bs.length c1, .int .i64 c.wi, .slice A2 c.cl.length c2] 26)).alloc (.cells #[.slice A W.length k0] 27)).alloc (.cells #[.int .i64 0, .slice none 0 0, .int .i64 0, .slice none 0 0] 26)).heap.size = w.heap.size + 3 := by simp
  have GC : (((w.alloc (.cells #[.int .i64 c.ev, .slice A1 c.bs.length c1, .int .i64 c.wi, .slice A2 c.cl.length c2] 26)).alloc (.cells #[.slice A W.length k0] 27)).alloc (.cells #[.int .i64 0, .slice none 0 0, .int .i64 0, .slice none 0 0] 26)).heap[w.heap.size]? = some (.cells #[.int .i64 c.ev, .slice A1 c.bs.length c1, .int .i64 c.wi, .slice A2 c.cl.length c2] 26 (0, 0)) := (Below.block (Ext.alloc (Ext.alloc (Ext.refl (w.alloc (.cells #[.int .i64 c.ev, .slice A1 c.bs.length c1, .int .i64 c.wi, .slice A2 c.cl.length c2] 26))) (.cells #[.slice A W.length k0] 27)) (.cells #[.int .i64 0, .slice none 0 0, .int .i64 0, .slice none 0 0] 26)) w.heap.size (by simp)).trans (heap_alloc_new w _)
  have GB : (((w.alloc (.cells #[.int .i64 c.ev, .slice A1 c.bs.length c1, .int .i64 c.wi, .slice A2 c.cl.length c2] 26)).alloc (.cells #[.slice A W.length k0] 27)).alloc (.cells #[.int .i64 0, .slice none 0 0, .int .i64 0, .slice none 0 0] 26)).heap[w.heap.size + 1]? = some (.cells #[.slice A W.length k0] 27 (0, 0)) := by
    have h := heap_alloc_new (w.alloc (.cells #[.int .i64 c.ev, .slice A1 c.bs.length c1, .int .i64 c.wi, .slice A2 c.cl.length c2] 26)) (.cells #[.slice A W.length k0] 27)
    rw [show (w.alloc (.cells #[.int .i64 c.ev, .slice A1 c.bs.length c1, .int .i64 c.wi, .slice A2 c.cl.length c2] 26)).heap.size = w.heap.size + 1 by simp] at h
    exact (Below.block (Ext.alloc (Ext.refl ((w.alloc (.cells #[.int .i64 c.ev, .slice A1 c.bs.length c1, .int .i64 c.wi, .slice A2 c.cl.length c2] 26)).alloc (.cells #[.slice A W.length k0] 27))) (.cells #[.int .i64 0, .slice none 0 0, .int .i64 0, .slice none 0 0] 26)) (w.heap.size + 1) (by simp)).trans h
  have GZ : (((w.alloc (.cells #[.int .i64 c.ev, .slice A1 c.bs.length c1, .int .i64 c.wi, .slice A2 c.cl.length c2] 26)).alloc (.cells #[.slice A W.length k0] 27)).alloc (.cells #[.int .i64 0, .slice none 0 0, .int .i64 0, .slice none 0 0] 26)).heap[w.heap.size + 1 + 1]? = some (.cells #[.int .i64 0, .slice none 0 0, .int .i64 0, .slice none 0 0] 26 (0, 0)) := by
    have h := heap_alloc_new ((w.alloc (.cells #[.int .i64 c.ev, .slice A1 c.bs.length c1, .int .i64 c.wi, .slice A2 c.cl.length c2] 26)).alloc (.cells #[.slice A W.length k0] 27)) (.cells #[.int .i64 0, .slice none 0 0, .int .i64 0, .slice none 0 0] 26)
    rwa [show ((w.alloc (.cells #[.int .i64 c.ev, .slice A1 c.bs.length c1, .int .i64 c.wi, .slice A2 c.cl.length c2] 26)).alloc (.cells #[.slice A W.length k0] 27)).heap.size = w.heap.size + 1 + 1 by simp] at h
  generalize hW0 : (((w.alloc (.cells #[.int .i64 c.ev, .slice A1 c.bs.length c1, .int .i64 c.wi, .slice A2 c.cl.length c2] 26)).alloc (.cells #[.slice A W.length k0] 27)).alloc (.cells #[.int .i64 0, .slice none 0 0, .int .i64 0, .slice none 0 0] 26)) = W0 at x0 hz0 GC GB GZ ⊢
  clear hW0
  refine (check_any _ c _ (hc'.ext x0) hs).mono ?_
  rintro e w1 ⟨rfl, hx1⟩
  have GC1 := (Below.block hx1 _ (by omega)).trans GC
  have GB1 := (Below.block hx1 _ (by omega)).trans GB
  have GZ1 := (Below.block hx1 _ (by omega)).trans GZ
  have X1 := x0.trans hx1
  have hz1 := hx1.size
  clear GC GB GZ x0 hx1
  obtain ⟨K, hK⟩ : ∃ K, checkC c = K := ⟨_, rfl⟩
  have HK := hid hK
  rw [hK]
  rw [hK] at HT2
  clear hK
  by_cases k0 : K ≠ 0
  · have HTK : Hid (T = K) := by
      have h := HT2.out
      rw [if_pos k0] at h
      exact h.symm
    have HTN : Hid (T ≠ 0) := by unfold Hid; rw [HTK.out]; exact k0
    have z0 := block_cell (i := 0) GZ1
    have z1 := block_cell (i := 1) GZ1
    have z2 := block_cell (i := 2) GZ1
    have z3 := block_cell (i := 3) GZ1
    have f0 := block_free (i := 0) GZ1
    have f1 := block_free (i := 1) GZ1
    have f2 := block_free (i := 2) GZ1
    have f3 := block_free (i := 3) GZ1
    simp only [List.getElem?_toArray, List.getElem?_cons_zero, List.getElem?_cons_succ] at z0 z1 z2 z3
    clear GC1 GB1 GZ1
    go_wp2
    refine bodyPost_ret (v := .tuple #[zeroCs, .int .i64 T]) ?_ rfl ⟨zeroCs, by rw [HT.out], (((X1.setCell (by simp; omega) _).setCell (by simp; omega) _).setCell (by simp; omega) _).setCell (by simp; omega) _, fun _ => rfl, fun h => absurd (HT.out.symm.trans h) HTN.out⟩
    rw [results_cell_tmp rfl]
    simp only [HTK.out]
    go_simp
    rfl
  have h2 := HT2.out
  rw [if_neg k0] at h2
  clear HT2
  have HT2 : Hid (witE c.wi (W.take 0) (W.drop 0) = T) := h2
  have e0 : K = 0 := by simpa using k0
  have hck := HK.out.trans e0
  obtain ⟨wi0, wi6⟩ := checkC_wi hck
  have HCK := hid hck
  subst e0
  clear h2 k0 hck
  have b0 := block_cell (i := 0) GB1
  simp only [List.getElem?_toArray, List.getElem?_cons_zero] at b0
  have HGC := hid GC1
  have HGB := hid GB1
  have HGZ := hid GZ1
  clear GC1 GB1 GZ1
  go_wp2
  clear b0
  go_loopw [17] (fun i wr => ∃ k : Nat, i = .int .i64 (k : Int) ∧ k ≤ W.length ∧ Hid (witE c.wi (W.take k) (W.drop k) = T) ∧ Ext w1 wr) (fun i _ => W.length - (intOf i).toNat)
  case atStart => exact ⟨0, rfl, Nat.zero_le _, HT2, Ext.refl _⟩
  case round =>
    obtain ⟨k, rfl, hk, HT2, hx⟩ := hrel
    have GC2 := (Below.block hx _ (by omega)).trans HGC.out
    have GB2 := (Below.block hx _ (by omega)).trans HGB.out
    have GZ2 := (Below.block hx _ (by omega)).trans HGZ.out
    have X2 := X1.trans hx
    have hz2 := hx.size
    by_cases hlt : k < W.length
    · have hlt' : (k : Int) < (W.length : Int) := by omega
      obtain ⟨n, hn⟩ := get_of_lt W k hlt
      obtain ⟨b, off, rfl, e0⟩ := Ints.at_ (Ints.ext hA X2) hn
      have hI2 : Ints wr (some ⟨b, off, none⟩) (W.take k) := by
        refine Rd.pre_ (ys := (W.drop k).map (.int .i64)) ?_
        rw [← List.map_append, List.take_append_drop]; exact Ints.ext hA X2
      have HD : Hid ((if !inB n 0 (c.wi - 1) then 1 else if memI n (W.take k) then 5 else witE c.wi (W.take (k + 1)) (W.drop (k + 1))) = T) := by
        unfold Hid
        have h := HT2.out
        obtain ⟨h1, h2⟩ := List.getElem?_eq_some_iff.1 hn
        rw [List.drop_eq_getElem_cons h1, h2] at h
        rw [List.take_succ_eq_append_getElem h1, h2]
        exact h
      have htl : (W.take k).length = k := by simp; omega
      have c0 := block_cell (i := 0) GC2
      have c1' := block_cell (i := 1) GC2
      have c2' := block_cell (i := 2) GC2
      have c3 := block_cell (i := 3) GC2
      simp only [List.getElem?_toArray, List.getElem?_cons_zero, List.getElem?_cons_succ] at c0 c1' c2' c3
      have KW := witness_any _ c n wr (hc'.ext X2) wi0 wi6
      have HGC2 := hid GC2
      have HGB2 := hid GB2
      have HGZ2 := hid GZ2
      clear HT2 hn GC2 GB2 GZ2
      go_wp2_with fail
      refine KW.mono ?_
      rintro e w3 ⟨rfl, hx3⟩
      have GC3 := (Below.block hx3 _ (by omega)).trans HGC2.out
      have GB3 := (Below.block hx3 _ (by omega)).trans HGB2.out
      have GZ3 := (Below.block hx3 _ (by omega)).trans HGZ2.out
      have X3 := X2.trans hx3
      have hz3 := hx3.size
      cases hin : inB n 0 (c.wi - 1)
      · have HTK : Hid (T = 1) := by
          have h := HD.out
          rw [hin] at h
          exact h.symm
        have HTN : Hid (T ≠ 0) := by unfold Hid; rw [HTK.out]; decide
        clear KW HD hin c0 c1' c2' c3
        have z0 := block_cell (i := 0) GZ3
        have z1 := block_cell (i := 1) GZ3
        have z2 := block_cell (i := 2) GZ3
        have z3 := block_cell (i := 3) GZ3
        have f0 := block_free (i := 0) GZ3
        have f1 := block_free (i := 1) GZ3
        have f2 := block_free (i := 2) GZ3
        have f3 := block_free (i := 3) GZ3
        simp only [List.getElem?_toArray, List.getElem?_cons_zero, List.getElem?_cons_succ] at z0 z1 z2 z3
        go_wp2
        refine bodyPost_ret (v := .tuple #[zeroCs, .int .i64 T]) ?_ rfl ⟨zeroCs, by rw [HT.out], (((X3.setCell (by simp; omega) _).setCell (by simp; omega) _).setCell (by simp; omega) _).setCell (by simp; omega) _, fun _ => rfl, fun h => absurd (HT.out.symm.trans h) HTN.out⟩
        rw [results_cell_tmp rfl]
        simp only [HTK.out]
        go_simp
        rfl
      · have HD2 : Hid ((if memI n (W.take k) then 5 else witE c.wi (W.take (k + 1)) (W.drop (k + 1))) = T) := by
          have h := HD.out
          rw [hin] at h
          exact h
        have b0 := block_cell (i := 0) GB3
        simp only [List.getElem?_toArray, List.getElem?_cons_zero] at b0
        have KI := containsI_any n (some ⟨b, off, none⟩) k0 (W.take k) w3 (hI2.ext hx3) (by omega)
        rw [htl] at KI
        have hkc : (k : Int) ≤ (k0 : Int) := by omega
        have hk0' : ¬ (k : Int) < 0 := by omega
        have HGC3 := hid GC3
        have HGB3 := hid GB3
        have HGZ3 := hid GZ3
        clear KW HD hin c0 c1' c2' c3 hI2 htl GC3 GB3 GZ3
        go_wp2_with fail
        refine KI.mono ?_
        rintro e w4 ⟨rfl, rfl⟩
        cases hm : memI n (W.take k)
        · have HT3 : Hid (witE c.wi (W.take (k + 1)) (W.drop (k + 1)) = T) := by
            have h := HD2.out
            rw [hm] at h
            exact h
          clear KI HD2 hm b0
          go_wp2
          go_roundw
          case rel => exact ⟨k + 1, by go_num, by omega, HT3, hx.trans hx3⟩
          case measure => simp [intOf]; omega
        · have HTK : Hid (T = 5) := by
            have h := HD2.out
            rw [hm] at h
            exact h.symm
          have HTN : Hid (T ≠ 0) := by unfold Hid; rw [HTK.out]; decide
          have GZ3 := HGZ3.out
          clear KI HD2 hm b0
          have z0 := block_cell (i := 0) GZ3
          have z1 := block_cell (i := 1) GZ3
          have z2 := block_cell (i := 2) GZ3
          have z3 := block_cell (i := 3) GZ3
          have f0 := block_free (i := 0) GZ3
          have f1 := block_free (i := 1) GZ3
          have f2 := block_free (i := 2) GZ3
          have f3 := block_free (i := 3) GZ3
          simp only [List.getElem?_toArray, List.getElem?_cons_zero, List.getElem?_cons_succ] at z0 z1 z2 z3
          go_wp2
          refine bodyPost_ret (v := .tuple #[zeroCs, .int .i64 T]) ?_ rfl ⟨zeroCs, by rw [HT.out], (((X3.setCell (by simp; omega) _).setCell (by simp; omega) _).setCell (by simp; omega) _).setCell (by simp; omega) _, fun _ => rfl, fun h => absurd (HT.out.symm.trans h) HTN.out⟩
          rw [results_cell_tmp rfl]
          simp only [HTK.out]
          go_simp
          rfl
    · have hlt' : ¬ (k : Int) < (W.length : Int) := by omega
      have HTK : Hid (T = 0) := by
        have h := HT2.out
        rw [List.drop_eq_nil_of_le (by omega)] at h
        exact h.symm
      obtain ⟨l1, l2, l3⟩ := manyOK_len (checkC_ok HCK.out).1
      have HL3 := hid l3
      have c0 := block_cell (i := 0) GC2
      have c1' := block_cell (i := 1) GC2
      have c2' := block_cell (i := 2) GC2
      have c3 := block_cell (i := 3) GC2
      simp only [List.getElem?_toArray, List.getElem?_cons_zero, List.getElem?_cons_succ] at c0 c1' c2' c3
      clear HT2 l3
      go_wp2_with fail
      refine (clone_bound A1 c1 c.bs wr (hB.ext X2) (by omega)).mono ?_
      rintro e w3 ⟨A5, c5, rfl, o5, -, hx3⟩
      have GC3 := (Below.block hx3 _ (by omega)).trans GC2
      have GB3 := (Below.block hx3 _ (by omega)).trans GB2
      have GZ3 := (Below.block hx3 _ (by omega)).trans GZ2
      have X3 := X2.trans hx3
      have hz3 := hx3.size
      clear GC2 GB2 GZ2 c0 c1' c2' c3
      have fc1 := block_free (i := 1) GC3
      have c0 := block_cell (i := 0) GC3
      have c1' := block_cell (i := 1) GC3
      have c2' := block_cell (i := 2) GC3
      have c3 := block_cell (i := 3) GC3
      simp only [List.getElem?_toArray, List.getElem?_cons_zero, List.getElem?_cons_succ] at c0 c1' c2' c3
      go_wp2_with fail
      have xs4 : BelS (fun i => i = w.heap.size) w3 (w3.setCell ⟨w.heap.size, 1, none⟩ (.slice A5 c.bs.length c5)) := (BelS.refl _ _).setCell (S := fun i => i = w.heap.size) ⟨w.heap.size, 1, none⟩ _ rfl
      have GC4 : (w3.setCell ⟨w.heap.size, 1, none⟩ (.slice A5 c.bs.length c5)).heap[w.heap.size]? = some (.cells #[.int .i64 c.ev, .slice A5 c.bs.length c5, .int .i64 c.wi, .slice A2 c.cl.length c2] 26 (0, 0)) := by
        have := heap_set GC3 (i := 1) (.slice A5 c.bs.length c5)
        simpa using this
      have GZ4 := xs4.heap GZ3 (by show ¬ w.heap.size + 1 + 1 = w.heap.size; omega)
      have GB4 := xs4.heap GB3 (by show ¬ w.heap.size + 1 = w.heap.size; omega)
      have O4 := hid (xs4.own o5 (fun k e h => by have h2 := (o5.lt k e).1; omega))
      have X4 : Ext w (w3.setCell ⟨w.heap.size, 1, none⟩ (.slice A5 c.bs.length c5)) := X3.setCell (Nat.le_refl _) _
      have z4 := xs4.size
      generalize hW4 : w3.setCell ⟨w.heap.size, 1, none⟩ (.slice A5 c.bs.length c5) = W4 at xs4 GC4 GZ4 GB4 O4 X4 z4 ⊢
      clear hW4 xs4 GC3 GZ3 GB3 X3 fc1 c0 c1' c2' c3 o5
      obtain ⟨xs0, hR0, hC0⟩ := hC.ext X4
      refine (twin_any A2 c2 c.cl W4 xs0 hR0 hC0 (by omega) (fun x hx => by have := HL3.out x hx; omega)).mono ?_
      rintro e w6 ⟨A6, c6, ys, rfl, o6, hcl, -, hx6⟩
      have GC6 := (Below.block hx6 _ (by omega)).trans GC4
      have GZ6 := (Below.block hx6 _ (by omega)).trans GZ4
      have X6 := X4.trans hx6
      have hz6 := hx6.size
      have HFN := hid (believe1_fn W4 (w.heap.size + 1) A k0 W (by rw [block_cell GB4]; rfl) (Ints.ext hA X4) (by omega))
      have KD := deleteClaim_any W4.heap.size A6 c6 c.cl ys _ (fun x => !memI x.w W) W4 w6 o6 hcl HFN.out hx6.kc (Nat.le_refl _) hz6 (by omega)
      have HKD := hid KD
      have hzW : w.heap.size + 3 ≤ W4.heap.size := by omega
      have HX6 := hid hx6
      clear KD o6 hcl hR0 hC0 hx6 GC4 GZ4 GB4 X4 HFN
      go_wp2_with fail
      refine HKD.out.mono ?_
      rintro e w7 ⟨A7, c7, zs, rfl, o7, cl7, hb7⟩
      have hfe : (c.cl.filter fun x => !(!memI x.w W)) = (c.believe fun x => memI x W).cl := by
        unfold Cs.believe
        exact List.filter_congr fun x _ => by simp
      rw [hfe] at o7 cl7 ⊢
      have HBE : Hid ((c.believe fun x => memI x W).ev = c.ev ∧ (c.believe fun x => memI x W).bs = c.bs ∧ (c.believe fun x => memI x W).wi = c.wi) := ⟨rfl, rfl, rfl⟩
      generalize hd : (c.believe fun x => memI x W) = d at *
      have HDD := hid hd
      clear hfe hd HKD
      have GC7 := (Below.block hb7 _ (by omega)).trans GC6
      have GZ7 := (Below.block hb7 _ (by omega)).trans GZ6
      have X7 : Ext w w7 := Below.trans X6 (Below.mono hb7 (by omega))
      have E47 : Ext W4 w7 := Below.trans HX6.out hb7
      have O7 := hid (own_below O4.out E47)
      have OC := hid o7
      have HCL := hid cl7
      have hz7 := E47.size
      have hg4 := O4.out.lt
      clear hb7 o7 cl7 E47
      have c0 := block_cell (i := 0) GC7
      have c1' := block_cell (i := 1) GC7
      have c2' := block_cell (i := 2) GC7
      have c3 := block_cell (i := 3) GC7
      have fc3 := block_free (i := 3) GC7
      simp only [List.getElem?_toArray, List.getElem?_cons_zero, List.getElem?_cons_succ] at c0 c1' c2' c3
      have z0 := block_cell (i := 0) GZ7
      have z1 := block_cell (i := 1) GZ7
      have z2 := block_cell (i := 2) GZ7
      have z3 := block_cell (i := 3) GZ7
      have f0 := block_free (i := 0) GZ7
      have f1 := block_free (i := 1) GZ7
      have f2 := block_free (i := 2) GZ7
      have f3 := block_free (i := 3) GZ7
      simp only [List.getElem?_toArray, List.getElem?_cons_zero, List.getElem?_cons_succ] at z0 z1 z2 z3
      have nz : w.heap.size + 1 + 1 ≠ w.heap.size := by omega
      clear GC6 GZ6 X6 GC7 GZ7
      go_wp2
      have xb8 : BelS (fun i => i = w.heap.size ∨ i = w.heap.size + 1 + 1) w7 (((((w7.setCell ⟨w.heap.size, 3, none⟩ (.slice A7 d.cl.length c7)).setCell ⟨w.heap.size + 1 + 1, 0, none⟩ (.int .i64 c.ev)).setCell ⟨w.heap.size + 1 + 1, 1, none⟩ (.slice A5 c.bs.length c5)).setCell ⟨w.heap.size + 1 + 1, 2, none⟩ (.int .i64 c.wi)).setCell ⟨w.heap.size + 1 + 1, 3, none⟩ (.slice A7 d.cl.length c7)) :=
        (((((BelS.refl _ w7).setCell (S := fun i => i = w.heap.size ∨ i = w.heap.size + 1 + 1) ⟨w.heap.size, 3, none⟩ _ (.inl rfl)).setCell ⟨w.heap.size + 1 + 1, 0, none⟩ _ (.inr rfl)).setCell ⟨w.heap.size + 1 + 1, 1, none⟩ _ (.inr rfl)).setCell ⟨w.heap.size + 1 + 1, 2, none⟩ _ (.inr rfl)).setCell ⟨w.heap.size + 1 + 1, 3, none⟩ _ (.inr rfl)
      have X8 : Ext w (((((w7.setCell ⟨w.heap.size, 3, none⟩ (.slice A7 d.cl.length c7)).setCell ⟨w.heap.size + 1 + 1, 0, none⟩ (.int .i64 c.ev)).setCell ⟨w.heap.size + 1 + 1, 1, none⟩ (.slice A5 c.bs.length c5)).setCell ⟨w.heap.size + 1 + 1, 2, none⟩ (.int .i64 c.wi)).setCell ⟨w.heap.size + 1 + 1, 3, none⟩ (.slice A7 d.cl.length c7)) := ((((X7.setCell (Nat.le_refl _) _).setCell (by simp; omega) _).setCell (by simp; omega) _).setCell (by simp; omega) _).setCell (by simp; omega) _
      have O8 := own_base (base' := w.heap.size) (xb8.own O7.out (fun k e h => by have := (O7.out.lt k e).1; omega)) (by omega)
      have OC8 := own_base (base' := w.heap.size) (xb8.own OC.out (fun k e h => by have := (OC.out.lt k e).1; omega)) (by omega)
      have HC8 := (HCL.out.keep (fun v n zs ho => xb8.own ho (fun k e h => by have := (ho.lt k e).1; omega))).base (B' := w.heap.size) (by omega)
      refine bodyPost_ret (v := .tuple #[.agg #[.int .i64 c.ev, .slice A5 c.bs.length c5, .int .i64 c.wi, .slice A7 d.cl.length c7], .int .i64 T]) ?_ rfl ⟨.agg #[.int .i64 c.ev, .slice A5 c.bs.length c5, .int .i64 c.wi, .slice A7 d.cl.length c7], by rw [HT.out], X8, fun h => absurd (HT.out.symm ▸ HTK.out) h, fun _ => ?_⟩
      · rw [results_cell_tmp rfl]
        simp only [HTK.out]
        go_simp
      · rw [HDD.out]
        exact ⟨A5, c5, A7, c7, zs, by rw [HBE.out.1, HBE.out.2.1, HBE.out.2.2], by rw [HBE.out.2.1]; exact O8, OC8, HC8⟩
end Go.Proofs.Ytgnjhaomlbkgcaa

namespace Go.Proofs.Ytgnjhaomlbkgcaa
open Go Go.RowKit Go.Shelf
set_option linter.unusedVariables false
set_option linter.unusedSimpArgs false

def liedC (n : Int) (l : List Int) (x : Cl) : Bool := x.w == n && !(x.bs.all (bdHolds l))
set_option maxRecDepth 100000 in
set_option maxHeartbeats 1000000 in
theorem liarsL_fn (w : World) (Bn Br : Nat) (n : Int) (A : Option Addr) (k : Nat) (l : List Int) (hBn : w.cell? ⟨Bn, 0, none⟩ = some (.int .i64 n)) (hBr : w.cell? ⟨Br, 0, none⟩ = some (.slice A l.length k)) (hA : Ints w A l) (hl : ∀ x ∈ l, -1000000 ≤ x ∧ x ≤ 1000000) :
    FnP Try.prog (.func (.func 73) #[] #[.pointer (some ⟨Bn, 0, none⟩), .pointer (some ⟨Br, 0, none⟩)]) w ClR (fun x => x.bs.length ≤ 1000000 ∧ ∀ b ∈ x.bs, bdIn l.length b) (liedC n l) := by
  refine ⟨_, _, _, rfl, enters_of Try.func73 (by kernel_rfl) rfl, fun x v2 W hs hW hR => ?_⟩
  obtain ⟨A2, k2, rfl, hB⟩ := hR
  obtain ⟨hs1, hs2⟩ := hs
  have HS2 := hid hs2
  have HL := hid hl
  have hxa : Ext W (W.alloc (.cells #[.int .i64 x.w, .slice A2 x.bs.length k2] 37)) := Ext.alloc (Ext.refl W) _
  have cn := hxa.cell (hW.cell hBn)
  have cr := hxa.cell (hW.cell hBr)
  have hAr := hid ((hA.kc hW).ext hxa)
  clear hA hBn hBr hs2 hl
  show Calls _ _ #[_, _, _] _ _
  go_enter Try.func73, Try.ntmps73
  by_cases hw : x.w = n
  · have hw' : (x.w == n) = true := by simp [hw]
    have HQ : Hid (liedC n l x = !(x.bs.all (bdHolds l))) := by unfold Hid liedC; rw [hw']; rfl
    clear hw
    go_wp2_with fail
    refine (holds_any A2 k2 x.bs A k l _ (hB.ext hxa) hAr.out hs1 HS2.out HL.out).mono ?_
    rintro e w1 ⟨rfl, h1⟩
    go_wp2
    go_ret
    exact ⟨ret_of (bool_of HQ.out.symm), hxa.trans h1⟩
  · have hw' : (x.w == n) = false := by simpa using hw
    have HQ : Hid (liedC n l x = false) := by unfold Hid liedC; rw [hw']; rfl
    go_wp2
    go_ret
    exact ⟨ret_of (bool_of HQ.out.symm), hxa⟩

theorem believe_sized {c : Cs} (h : c.sized) (tf : Int → Bool) : (c.believe tf).sized := by
  obtain ⟨h1, h2, h3⟩ := h
  exact ⟨h1, Nat.le_trans (show (c.cl.filter _).length ≤ _ from List.length_filter_le _ _) h2, fun x hx => h3 x (List.mem_filter.1 (show x ∈ c.cl.filter _ from hx)).1⟩
theorem bit_yes {s n : Nat} (hs : s < 64) (hn : n < 6) (h : s.testBit n = true) : (bits BinOp.and IntKind.i64 ((s : Int) / 2 ^ n) 1 == 1) = true := by
  have H : ∀ s : Fin 64, ∀ n : Fin 6, (s : Nat).testBit n = true → (bits BinOp.and IntKind.i64 (((s : Nat) : Int) / 2 ^ (n : Nat)) 1 == 1) = true := by decide +kernel
  exact H ⟨s, hs⟩ ⟨n, hn⟩ h
theorem bit_no {s n : Nat} (hs : s < 64) (hn : n < 6) (h : s.testBit n = false) : (bits BinOp.and IntKind.i64 ((s : Int) / 2 ^ n) 1 == 1) = false := by
  have H : ∀ s : Fin 64, ∀ n : Fin 6, (s : Nat).testBit n = false → (bits BinOp.and IntKind.i64 (((s : Nat) : Int) / 2 ^ (n : Nat)) 1 == 1) = false := by decide +kernel
  exact H ⟨s, hs⟩ ⟨n, hn⟩ h
theorem lied_any (c : Cs) (l : List Int) (n : Nat) : (c.cl.any (liedC (n : Int) l)) = liedP c (fun k => l.getD k 0) n := rfl

set_option maxRecDepth 100000 in
set_option maxHeartbeats 8000000 in
set_option pp.maxSteps 10000000 in
set_option pp.deepTerms true in
theorem liarsw_any (A : Option Addr) (l : List Int) (cap : Nat) (w : World) (hA : Bytes w A l) (hl : ∀ x ∈ l, 0 ≤ x ∧ x ≤ 255) (hlt : ∀ a, A = some a → l = [] ∨ a.block < w.heap.size) (hn : l.length ≤ 9223372036854775807) :
    Calls Try.prog 11 #[.slice A l.length cap] w fun e w' => e = .returned (.bool true) ∧ Ext w w' := by
  go_enter Try.func11, Try.ntmps11
  go_wp2_with fail
  refine (pile_any A l cap _ hA hl hlt hn).mono ?_
  rintro e w1 ⟨D, rfl, hD, hx1, hh1⟩
  have hs1 := hx1.size
  clear hA hlt hl
  go_wp2_with fail
  refine Calls.mono (made_any D 7 12 8 2 w1 hh1 (by omega) (by omega) (by omega) (by omega) (by omega) (by omega)) ?_
  rintro e w2 ⟨v, c, real, A3, c3, rfl, hc, hI, hM, hb2, hh2⟩
  have x2 := hx1.then_bel (by omega) hb2
  have hsz := hM.sized1 (by omega) (by omega)
  have h0 := hM.check (by decide) (by decide) (by omega) (by omega) (by omega)
  have hwi := checkC_wi h0
  have hre := hM.real_
  have hrl := hM.len
  have HBS : Hid (∀ b ∈ c.bs, real.getD b.t.toNat 0 ≤ real.getD b.f.toNat 0 + b.m) := fun b hb => by
    obtain ⟨_, _, _, h4, _⟩ := hM.bs b hb
    omega
  have HB3 : Hid (∀ x ∈ c.cl, x.bs.length ≤ 3) := fun x hx => (hM.cl x hx).2.1
  obtain ⟨N, hN⟩ : ∃ N : Nat, c.wi = N := ⟨c.wi.toNat, by omega⟩
  obtain ⟨A1, c1, A2, c2, hv, hB, hC⟩ := hc
  rw [hN] at hv
  subst hv
  have HN := hid hN
  have hN6 : N ≤ 6 := by omega
  clear hb2 hh2 hh1 hs1 hD hM hx1 hN hwi
  go_wp2_with fail
  have xa := Ext.alloc (Ext.alloc (Ext.refl w2) (.cells #[.int .i64 c.ev, .slice A1 c.bs.length c1, .int .i64 (N : Int), .slice A2 c.cl.length c2] 26)) (.cells #[.slice A3 real.length c3] 27)
  have G2 : ((w2.alloc (.cells #[.int .i64 c.ev, .slice A1 c.bs.length c1, .int .i64 (N : Int), .slice A2 c.cl.length c2] 26)).alloc (.cells #[.slice A3 real.length c3] 27)).heap[w2.heap.size]? = some (.cells #[.int .i64 c.ev, .slice A1 c.bs.length c1, .int .i64 (N : Int), .slice A2 c.cl.length c2] 26 (0, 0)) :=
    (Below.block (Ext.alloc (Ext.refl (w2.alloc (.cells #[.int .i64 c.ev, .slice A1 c.bs.length c1, .int .i64 (N : Int), .slice A2 c.cl.length c2] 26))) (.cells #[.slice A3 real.length c3] 27)) w2.heap.size (by simp)).trans (heap_alloc_new w2 _)
  have G3 : ((w2.alloc (.cells #[.int .i64 c.ev, .slice A1 c.bs.length c1, .int .i64 (N : Int), .slice A2 c.cl.length c2] 26)).alloc (.cells #[.slice A3 real.length c3] 27)).heap[w2.heap.size + 1]? = some (.cells #[.slice A3 real.length c3] 27 (0, 0)) := by
    have := heap_alloc_new (w2.alloc (.cells #[.int .i64 c.ev, .slice A1 c.bs.length c1, .int .i64 (N : Int), .slice A2 c.cl.length c2] 26)) (.cells #[.slice A3 real.length c3] 27)
    simpa using this
  generalize hW3 : (w2.alloc (.cells #[.int .i64 c.ev, .slice A1 c.bs.length c1, .int .i64 (N : Int), .slice A2 c.cl.length c2] 26)).alloc (.cells #[.slice A3 real.length c3] 27) = W3 at G2 G3 xa ⊢
  clear hW3
  obtain ⟨Bc, hBc⟩ : ∃ Bc, w2.heap.size = Bc := ⟨_, rfl⟩
  rw [hBc] at G2 G3 ⊢
  clear hBc
  have hBc3 : Bc < W3.heap.size := (Array.getElem?_eq_some_iff.1 G2).1
  have hBr3 : Bc + 1 < W3.heap.size := (Array.getElem?_eq_some_iff.1 G3).1
  have FC : Hid (∀ w', Ext W3 w' → w'.cell? ⟨Bc, 0, none⟩ = some (.int .i64 c.ev) ∧ w'.cell? ⟨Bc, 1, none⟩ = some (.slice A1 c.bs.length c1) ∧ w'.cell? ⟨Bc, 2, none⟩ = some (.int .i64 (N : Int)) ∧ w'.cell? ⟨Bc, 3, none⟩ = some (.slice A2 c.cl.length c2)) := fun w' h => by
    have G := (Below.block h Bc hBc3).trans G2
    exact ⟨block_cell (i := 0) G, block_cell (i := 1) G, block_cell (i := 2) G, block_cell (i := 3) G⟩
  have FR : Hid (∀ w', Ext W3 w' → w'.cell? ⟨Bc + 1, 0, none⟩ = some (.slice A3 real.length c3)) := fun w' h => by
    have G := (Below.block h (Bc + 1) hBr3).trans G3
    exact block_cell (i := 0) G
  have HC : Hid (∀ w', Ext W3 w' → CsR w' (.agg #[.int .i64 c.ev, .slice A1 c.bs.length c1, .int .i64 (N : Int), .slice A2 c.cl.length c2]) c) := fun w' h => ⟨A1, c1, A2, c2, by rw [HN.out], (hB.ext xa).ext h, (hC.ext xa).ext h⟩
  have HCL : Hid (∀ w', Ext W3 w' → Claims w' A2 c.cl) := fun w' h => (hC.ext xa).ext h
  have HI : Hid (∀ w', Ext W3 w' → Ints w' A3 real) := fun w' h => Ints.ext (Ints.ext hI xa) h
  have HX3 := hid (x2.trans xa)
  have HSZ := hid hsz
  have H0 := hid h0
  have HRE := hid hre
  have HRL := hid hrl
  obtain ⟨L, hL⟩ := liars_ok h0 HBS.out
  have hlc : liarsC c = 0 := by
    have e : ¬ checkC c ≠ 0 := by simp [h0]
    unfold liarsC
    rw [if_neg e, hL.few]
  have HLO := hid hL
  have KL := liars_any _ c W3 (HC.out W3 (Ext.refl _)) hsz
  rw [hlc] at KL
  have hll : L.length ≤ 6 := by
    rcases hL.asc.len with h | h
    · have := HN.out; omega
    · rw [h]; simp
  obtain ⟨q0, q1, q2, q3⟩ := FC.out W3 (Ext.refl _)
  clear hB hC hI x2 xa G2 G3 hsz h0 hre hrl hlc hL hBc3 hBr3
  refine KL.mono ?_
  clear KL q0 q1 q2 q3
  rintro e w4 ⟨r, rfl, h4, -, hr⟩
  obtain ⟨L', A5, c5, e5, rfl, hI5⟩ := hr (by first | rfl | trivial)
  have e6 : L' = L := by have := HLO.out.few; rw [e5] at this; exact Option.some.inj this
  subst e6
  have HI5 := hid hI5
  clear e5 hr hI5
  go_wp2_with fail
  refine (issorted_any A5 c5 L' w4 HI5.out (by omega) HLO.out.asc.lt).mono ?_
  rintro e w5 ⟨rfl, h5⟩
  have hx5 := h4.trans h5
  have HI6 := hid (Ints.ext HI5.out h5)
  obtain ⟨q0, q1, q2, q3⟩ := FC.out w5 hx5
  clear h4 h5 HI5 q0 q1 q3
  go_wp2
  go_loopw [7, 37] (fun q i wr => ∃ k : Nat, q = .int .i64 ((someW (liedP c (fun k => real.getD k 0)) k).length : Int) ∧ i = .int .i64 (k : Int) ∧ k ≤ N ∧ Ext w5 wr) (fun _ i _ => (N - (intOf i).toNat))
  case atStart => exact ⟨0, rfl, rfl, by omega, Ext.refl _⟩
  case round =>
    obtain ⟨k, rfl, rfl, hk, hx⟩ := hrel
    have hxx := hx5.trans hx
    by_cases hlt : k < N
    · have hlt' : (k : Int) < (N : Int) := by omega
      have xo := Ext.alloc (Ext.refl wr) (.cells #[.int .i64 (k : Int)] 3)
      have hfv := liarsL_fn (wr.alloc (.cells #[.int .i64 (k : Int)] 3)) wr.heap.size (Bc + 1) (k : Int) A3 c3 real (by simp [go_sem]) (FR.out _ (hxx.trans xo)) (HI.out _ (hxx.trans xo)) (fun x hx => by have := HRE.out x hx; omega)
      have K := containsFunc_claim A2 c2 c.cl _ _ _ _ (HCL.out _ (hxx.trans xo)) (by have := HSZ.out.2.1; omega) (fun x hx => by
        refine ⟨by have := HB3.out x hx; omega, fun b hb => bdIn_of H0.out (by have := HRL.out; omega) b (all_mem.2 (.inr ⟨x, hx, hb⟩))⟩) hfv
      rw [lied_any] at K
      have hsn := someW_snoc (liedP c (fun k => real.getD k 0)) k
      have hsl := someW_len (liedP c (fun k => real.getD k 0)) k
      have HK := hid K
      obtain ⟨q0, q1, q2, q3⟩ := FC.out _ (hxx.trans xo)
      cases hq : liedP c (fun k => real.getD k 0) k
      · rw [hq] at hsn HK
        have HLN : Hid ((someW (liedP c (fun k => real.getD k 0)) (k + 1)).length = (someW (liedP c (fun k => real.getD k 0)) k).length) := by unfold Hid; rw [hsn]; simp
        generalize (someW (liedP c (fun k => real.getD k 0)) k).length = m at *
        clear K hfv hsn hq
        go_wp2_with fail
        refine HK.out.mono ?_
        rintro e w9 ⟨rfl, h9⟩
        clear q0 q1 q2 q3 HK
        go_wp2
        go_roundw
        case rel => exact ⟨k + 1, by rw [HLN.out], by go_num, by omega, hx.trans (xo.trans h9)⟩
        case measure => simp [intOf]; omega
      · rw [hq] at hsn HK
        have HLN : Hid ((someW (liedP c (fun k => real.getD k 0)) (k + 1)).length = (someW (liedP c (fun k => real.getD k 0)) k).length + 1) := by unfold Hid; rw [hsn]; simp
        generalize (someW (liedP c (fun k => real.getD k 0)) k).length = m at *
        clear K hfv hsn hq
        go_wp2_with fail
        refine HK.out.mono ?_
        rintro e w9 ⟨rfl, h9⟩
        clear q0 q1 q2 q3 HK
        go_wp2
        go_roundw
        case rel => exact ⟨k + 1, by rw [HLN.out]; go_num, by go_num, by omega, hx.trans (xo.trans h9)⟩
        case measure => simp [intOf]; omega
    · have hlt' : ¬ (k : Int) < (N : Int) := by omega
      have hkN : k = N := by omega
      subst hkN
      have hle := HLO.out.len
      have hnn : c.wi.toNat = k := by rw [HN.out]; simp
      rw [hnn] at hle
      generalize (someW (liedP c (fun k => real.getD k 0)) k).length = m at *
      have hle' : ¬ (L'.length : Int) > (m : Int) := by omega
      obtain ⟨q0, q1, q2, q3⟩ := FC.out wr hxx
      obtain ⟨M, hM⟩ : ∃ M : Nat, 2 ^ k = M := ⟨_, rfl⟩
      have hM64 : M ≤ 64 := by
        have h7 : k = 0 ∨ k = 1 ∨ k = 2 ∨ k = 3 ∨ k = 4 ∨ k = 5 ∨ k = 6 := by omega
        rcases h7 with rfl | rfl | rfl | rfl | rfl | rfl | rfl <;> subst hM <;> decide
      have e2 : ((2 : Int) ^ k) = (M : Int) := by rw [← hM]; simp
      have hMw : wrap64 ((2 : Int) ^ k) = (M : Int) := by rw [e2]; exact IntWalk.wrap64_in _ (by omega)
      clear hM hle e2
      go_wp2
      clear hMw q0 q1 q2 q3
      go_loopw [54] (fun i wr => ∃ s : Nat, i = .int .i64 (s : Int) ∧ s ≤ M ∧ Ext w5 wr) (fun i _ => (M - (intOf i).toNat))
      case atStart => exact ⟨0, rfl, by omega, hx⟩
      case round =>
        obtain ⟨s, rfl, hs, hx⟩ := hrel
        by_cases hlts : s < M
        · have hlts' : (s : Int) < (M : Int) := by omega
          obtain ⟨W9, rfl⟩ : ∃ W9 : World, W9 = wr := ⟨_, rfl⟩
          obtain ⟨q0, q1, q2, q3⟩ := FC.out W9 (hx5.trans hx)
          go_wp2
          clear q0 q1 q2 q3
          go_loopw [10, 11, 59] (fun g_ l_ i wr => ∃ (n : Nat) (A7 : Option Addr) (c7 : Nat) (A8 : Option Addr) (c8 : Nat), g_ = .slice A7 (someW (s.testBit ·) n).length c7 ∧ l_ = .slice A8 (someW (fun n => !s.testBit n) n).length c8 ∧ i = .int .i64 (n : Int) ∧ n ≤ k ∧
            Hid (wr.ownsRow W9.heap.size 3 1 (.slice A7 (someW (s.testBit ·) n).length c7) (someW (s.testBit ·) n).length ((someW (s.testBit ·) n).map (.int .i64))) ∧ Hid (wr.ownsRow W9.heap.size 3 1 (.slice A8 (someW (fun n => !s.testBit n) n).length c8) (someW (fun n => !s.testBit n) n).length ((someW (fun n => !s.testBit n) n).map (.int .i64))) ∧
            (∀ g, (Value.slice A7 (someW (s.testBit ·) n).length c7).ownBlock = some g → (Value.slice A8 (someW (fun n => !s.testBit n) n).length c8).ownBlock ≠ some g) ∧ Ext W9 wr) (fun _ _ i _ => (k - (intOf i).toNat))
          case atStart => exact ⟨0, none, 0, none, 0, rfl, rfl, rfl, by omega, own_nil _ _ _ _, own_nil _ _ _ _, fun g h => (by cases h), Ext.refl _⟩
          case round =>
            obtain ⟨n, A7, c7, A8, c8, rfl, rfl, rfl, hn, HO7, HO8, hap, hxn⟩ := hrel
            have hsz9 : W9.heap.size ≤ wr.heap.size := hxn.size
            by_cases hltn : n < k
            · have hltn' : (n : Int) < (k : Int) := by omega
              have hs64 : s < 64 := by omega
              have hsn1 := someW_snoc (s.testBit ·) n
              have hsn2 := someW_snoc (fun n => !s.testBit n) n
              have hl1 := someW_len (s.testBit ·) n
              have hl2 := someW_len (fun n => !s.testBit n) n
              have xo := Ext.alloc (Ext.refl wr) (.cells #[.int .i64 (n : Int)] 3)
              have hlt7 := HO7.out.lt
              have hlt8 := HO8.out.lt
              cases hbit : s.testBit n
              · have hb0 : (bits BinOp.and IntKind.i64 ((s : Int) / 2 ^ n) 1 == 1) = false := bit_no hs64 (by omega) hbit
                simp only [hbit, Bool.not_false, if_true, Bool.false_eq_true, if_false, List.append_nil] at hsn1 hsn2
                have HSN1 := hid hsn1
                have HSN2 := hid hsn2
                generalize someW (s.testBit ·) n = G at *
                generalize someW (fun n => !s.testBit n) n = F at *
                have O8 := hid (own_below HO8.out xo)
                have O7 := hid (own_below HO7.out xo)
                have hrd : Rd (wr.alloc (.cells #[.int .i64 (n : Int)] 3)) (some ⟨wr.heap.size, 0, none⟩) [.int .i64 (n : Int)] := rd_block (heap_alloc_new wr _)
                have HRD := hid hrd
                clear hsn1 hsn2 hbit hrd
                go_wp2_with (at_builtin; refine wpList_append_rd2 _ rfl _ _ 27 rfl elem_int W9.heap.size _ F.length (F.map (.int .i64)) rfl O8.out _ 1 1 [.int .i64 (n : Int)] rfl rfl HRD.out (by intro u hu; simp at hu; subst hu; rfl) (by omega) (by simp; omega) ?_)
                intro A9 c9 w9 ho9 hb9 hg9 hat9
                have hbs : BelS (fun j => (Value.slice A8 F.length c8).ownBlock = some j) (wr.alloc (.cells #[.int .i64 (n : Int)] 3)) w9 := (BelS.refl _ _).grown hg9 (fun j e => e)
                have O7n := hid (hbs.own O7.out (fun g hg e => hap g hg e))
                have O9n : Hid (w9.ownsRow W9.heap.size 3 1 (.slice A9 (F ++ [(n : Int)]).length c9) (F ++ [(n : Int)]).length ((F ++ [(n : Int)]).map (.int .i64))) := by
                  unfold Hid; simpa using ho9
                have hap' : ∀ g, (Value.slice A7 G.length c7).ownBlock = some g → (Value.slice A9 (F ++ [(n : Int)]).length c9).ownBlock ≠ some g := fun g hg e => by
                  have e2 : (Value.slice A9 (F.length + 1) c9).ownBlock = some g := by simpa using e
                  rcases hat9 with h | h
                  · exact hap g hg (h.symm.trans e2)
                  · have := (hlt7 g hg).2
                    rw [h] at e2
                    have := Option.some.inj e2
                    have := xo.size
                    omega
                have hxf : Ext W9 w9 := Below.trans (hxn.trans xo) hb9
                clear ho9 hb9 hg9 hat9 hbs O7 O8 HRD
                go_wp2
                go_roundw
                case rel => exact ⟨n + 1, A7, c7, A9, c9, by rw [HSN1.out], by rw [HSN2.out]; simp, by go_num, by omega, by rw [HSN1.out]; exact O7n.out, by rw [HSN2.out]; exact O9n.out, by rw [HSN1.out, HSN2.out]; exact hap', hxf⟩
                case measure => simp [intOf]; omega
              · have hb1 : (bits BinOp.and IntKind.i64 ((s : Int) / 2 ^ n) 1 == 1) = true := bit_yes hs64 (by omega) hbit
                simp only [hbit, Bool.not_true, if_true, Bool.false_eq_true, if_false, List.append_nil] at hsn1 hsn2
                have HSN1 := hid hsn1
                have HSN2 := hid hsn2
                generalize someW (s.testBit ·) n = G at *
                generalize someW (fun n => !s.testBit n) n = F at *
                have O8 := hid (own_below HO8.out xo)
                have O7 := hid (own_below HO7.out xo)
                have hrd : Rd (wr.alloc (.cells #[.int .i64 (n : Int)] 3)) (some ⟨wr.heap.size, 0, none⟩) [.int .i64 (n : Int)] := rd_block (heap_alloc_new wr _)
                have HRD := hid hrd
                clear hsn1 hsn2 hbit hrd
                go_wp2_with (at_builtin; refine wpList_append_rd2 _ rfl _ _ 27 rfl elem_int W9.heap.size _ G.length (G.map (.int .i64)) rfl O7.out _ 1 1 [.int .i64 (n : Int)] rfl rfl HRD.out (by intro u hu; simp at hu; subst hu; rfl) (by omega) (by simp; omega) ?_)
                intro A9 c9 w9 ho9 hb9 hg9 hat9
                have hbs : BelS (fun j => (Value.slice A7 G.length c7).ownBlock = some j) (wr.alloc (.cells #[.int .i64 (n : Int)] 3)) w9 := (BelS.refl _ _).grown hg9 (fun j e => e)
                have O8n := hid (hbs.own O8.out (fun g hg e => hap g e hg))
                have O9n : Hid (w9.ownsRow W9.heap.size 3 1 (.slice A9 (G ++ [(n : Int)]).length c9) (G ++ [(n : Int)]).length ((G ++ [(n : Int)]).map (.int .i64))) := by
                  unfold Hid; simpa using ho9
                have hap' : ∀ g, (Value.slice A9 (G ++ [(n : Int)]).length c9).ownBlock = some g → (Value.slice A8 F.length c8).ownBlock ≠ some g := fun g hg e => by
                  have e2 : (Value.slice A9 (G.length + 1) c9).ownBlock = some g := by simpa using hg
                  rcases hat9 with h | h
                  · exact hap g (h.symm.trans e2) e
                  · have := (hlt8 g e).2
                    rw [h] at e2
                    have := Option.some.inj e2
                    have := xo.size
                    omega
                have hxf : Ext W9 w9 := Below.trans (hxn.trans xo) hb9
                clear ho9 hb9 hg9 hat9 hbs O7 O8 HRD
                go_wp2
                go_roundw
                case rel => exact ⟨n + 1, A9, c9, A8, c8, by rw [HSN1.out]; simp, by rw [HSN2.out], by go_num, by omega, by rw [HSN1.out]; exact O9n.out, by rw [HSN2.out]; exact O8n.out, by rw [HSN1.out, HSN2.out]; exact hap', hxf⟩
                case measure => simp [intOf]; omega
            · have hltn' : ¬ (n : Int) < (k : Int) := by omega
              have hnk : n = k := by omega
              subst hnk
              have hnn : c.wi.toNat = n := by rw [HN.out]; simp
              obtain ⟨h07, heq, hfew⟩ := HLO.out.sets (fun x => s.testBit x)
              rw [hnn] at h07 heq hfew
              have hasc := someW_asc (fun x => !s.testBit x) n
              have hl1 := someW_len (fun x => s.testBit x) n
              have hl2 := someW_len (fun x => !s.testBit x) n
              try dsimp only at h07 heq hfew
              generalize someW (fun x => s.testBit x) n = G at *
              generalize someW (fun x => !s.testBit x) n = F at *
              have hcap : F.length ≤ c8 := by
                rcases HO8.out.2 with ⟨h, h2⟩ | ⟨_, cap', _, h, _, _, hnc, _⟩
                · omega
                · cases h; exact hnc
              have KB := believe_any _ c A8 c8 F wr (HC.out wr (hx5.trans (hx.trans hxn))) HSZ.out (Rd.of_own HO8.out) (by omega) hcap
              have hbc : believeC c F = 0 := by
                have e : ¬ checkC c ≠ 0 := by simp [H0.out]
                unfold believeC
                rw [if_neg e, HN.out]
                exact witE_asc hasc (fun x h => by cases h)
              unfold BelPost at KB
              rw [hbc] at KB
              have HSU := hid (believe_sized HSZ.out (fun x => memI x F))
              generalize (c.believe fun x => memI x F) = u at *
              have HK := hid KB
              have HG := hid (Rd.of_own HO7.out)
              have HEQ := hid heq
              have HFEW := hid hfew
              obtain ⟨q0, q1, q2, q3⟩ := FC.out wr (hx5.trans (hx.trans hxn))
              clear KB hbc hnn hasc heq hfew HO7 HO8 hap hcap
              go_wp2_with fail
              refine HK.out.mono ?_
              rintro e w10 ⟨r, rfl, h10, -, hr⟩
              have hfr := (hr (by first | rfl | trivial)).toR
              obtain ⟨U1, u1, U2, u2, rfl, hb1, hb2⟩ := hfr
              have xo := Ext.alloc (Ext.refl w10) (.cells #[.int .i64 u.ev, .slice U1 u.bs.length u1, .int .i64 u.wi, .slice U2 u.cl.length u2] 26)
              have hx10 := hxn.trans (h10.trans xo)
              have KT := truth_any _ u (w10.alloc (.cells #[.int .i64 u.ev, .slice U1 u.bs.length u1, .int .i64 u.wi, .slice U2 u.cl.length u2] 26)) ⟨U1, u1, U2, u2, rfl, hb1.ext xo, hb2.ext xo⟩ HSU.out
              have hG10 := hid (Ints.ext HG.out (h10.trans xo))
              have hL10 := hid (Ints.ext HI6.out (hx.trans hx10))
              clear hr hb1 hb2 HK q0 q1 q2 q3 h10 xo HG
              rcases h07 with ht | ht
              · rw [ht] at KT
                have hfw : fewerL G L' = false := by
                  rw [Bool.eq_false_iff]; exact fun h => HFEW.out h ht
                have HKT := hid KT
                have HFW := hid hfw
                clear KT ht hfw HEQ HFEW
                go_wp2_with fail
                refine HKT.out.mono ?_
                rintro e w11 ⟨rT, rfl, h11, -, -⟩
                have KE := eq_int A7 A5 c7 c5 G L' w11 (Ints.ext hG10.out h11) (Ints.ext hL10.out h11) (by omega) (by omega)
                have HKE := hid KE
                clear KE HKT
                go_wp2_with fail
                refine HKE.out.mono ?_
                rintro e w12 ⟨rfl, h12⟩
                have KF := fewer_any A7 c7 G A5 c5 L' w12 (Ints.ext hG10.out (h11.trans h12)) (Ints.ext hL10.out (h11.trans h12)) (by omega) (by omega)
                rw [HFW.out] at KF
                have HKF := hid KF
                clear KF HKE
                cases hgl : (G == L')
                · clear hgl
                  go_wp2_with fail
                  refine HKF.out.mono ?_
                  rintro e w13 ⟨rfl, rfl⟩
                  go_wp2
                  go_roundw
                  case rel => exact ⟨s + 1, by go_num, by omega, hx.trans (hx10.trans (h11.trans h12))⟩
                  case measure => simp [intOf]; omega
                · clear hgl
                  go_wp2_with fail
                  refine HKF.out.mono ?_
                  rintro e w13 ⟨rfl, rfl⟩
                  go_wp2
                  go_roundw
                  case rel => exact ⟨s + 1, by go_num, by omega, hx.trans (hx10.trans (h11.trans h12))⟩
                  case measure => simp [intOf]; omega
              · rw [ht] at KT
                have hgl : (G == L') = false := by
                  rw [Bool.eq_false_iff]; intro h
                  exact HEQ.out (by simpa using h) ht
                have HKT := hid KT
                have HGL := hid hgl
                clear KT ht hgl HEQ HFEW
                go_wp2_with fail
                refine HKT.out.mono ?_
                rintro e w11 ⟨rT, rfl, h11, -, -⟩
                have KE := eq_int A7 A5 c7 c5 G L' w11 (Ints.ext hG10.out h11) (Ints.ext hL10.out h11) (by omega) (by omega)
                rw [HGL.out] at KE
                have HKE := hid KE
                clear KE HKT
                go_wp2_with fail
                refine HKE.out.mono ?_
                rintro e w12 ⟨rfl, h12⟩
                have KF := fewer_any A7 c7 G A5 c5 L' w12 (Ints.ext hG10.out (h11.trans h12)) (Ints.ext hL10.out (h11.trans h12)) (by omega) (by omega)
                have HKF := hid KF
                clear KF HKE
                go_wp2_with fail
                refine HKF.out.mono ?_
                rintro e w13 ⟨rfl, rfl⟩
                cases hfl : fewerL G L'
                · clear hfl
                  go_wp2
                  go_roundw
                  case rel => exact ⟨s + 1, by go_num, by omega, hx.trans (hx10.trans (h11.trans h12))⟩
                  case measure => simp [intOf]; omega
                · clear hfl
                  go_wp2
                  go_roundw
                  case rel => exact ⟨s + 1, by go_num, by omega, hx.trans (hx10.trans (h11.trans h12))⟩
                  case measure => simp [intOf]; omega
        · have hlts' : ¬ (s : Int) < (M : Int) := by omega
          go_wp2_with fail
          refine (awake_any wr).mono ?_
          rintro e w13 ⟨rfl, hx13⟩
          go_wp2
          go_ret
          exact ⟨rfl, HX3.out.trans (hx5.trans (hx.trans hx13))⟩
end Go.Proofs.Ytgnjhaomlbkgcaa

namespace Go.Proofs.Ytgnjhaomlbkgcaa
open Go Go.RowKit Go.Shelf
set_option linter.unusedVariables false
set_option linter.unusedSimpArgs false

theorem neededL_fn (w : World) (B : Nat) (A : Option Addr) (k : Nat) (l : List Int) (hB : w.cell? ⟨B, 0, none⟩ = some (.slice A l.length k)) (hA : Ints w A l) (hl : l.length ≤ 9223372036854775807) :
    FnP Try.prog (.func (.func 77) #[] #[.pointer (some ⟨B, 0, none⟩)]) w IntR anyx (fun n => !memI n l) := by
  refine ⟨_, _, _, rfl, enters_of Try.func77 (by kernel_rfl) rfl, fun x v2 W _ hW hR => ?_⟩
  obtain rfl : v2 = .int .i64 x := hR
  have hcell := hW.cell hB
  show Calls _ _ #[_, _] _ _
  go_enter Try.func77, Try.ntmps77
  go_wp2_with fail
  refine (containsI_any x A k l W (hA.kc hW) hl).mono ?_
  rintro e w1 ⟨rfl, rfl⟩
  go_wp2
  go_ret
  exact ⟨rfl, Ext.refl _⟩

set_option maxRecDepth 100000 in
set_option maxHeartbeats 8000000 in
theorem neededw_any (A : Option Addr) (l : List Int) (cap : Nat) (p1 p2 : Int) (w : World) (hA : Bytes w A l) (hl : ∀ x ∈ l, 0 ≤ x ∧ x ≤ 255) (hlt : ∀ a, A = some a → l = [] ∨ a.block < w.heap.size) (hn : l.length ≤ 9223372036854775807) (p10 : 0 ≤ p1) (p11 : p1 ≤ 255) (p20 : 0 ≤ p2) (p21 : p2 ≤ 255) :
    Calls Try.prog 13 #[.slice A l.length cap, .int .u8 p1, .int .u8 p2] w fun e w' => e = .returned (.bool true) ∧ Ext w w' := by
  go_enter Try.func13, Try.ntmps13
  go_wp2_with fail
  refine (pile_any A l cap _ hA hl hlt hn).mono ?_
  rintro e w1 ⟨D, rfl, hD, hx1, hh1⟩
  have hs1 := hx1.size
  clear hA hlt hl
  go_wp2_with fail
  refine Calls.mono (made_any D 6 8 6 0 w1 hh1 (by omega) (by omega) (by omega) (by omega) (by omega) (by omega)) ?_
  rintro e w2 ⟨v, c, real, A3, c3, rfl, hc, hI, hM, hb2, hh2⟩
  have x2 := hx1.then_bel (by omega) hb2
  have hsz := hM.sized1 (by omega) (by omega)
  have h0 := hM.check (by decide) (by decide) (by omega) (by omega) (by omega)
  have hwi := checkC_wi h0
  have hf := hM.truth.fine
  have hev2 := hM.ev2
  have hev6 := hM.evm
  obtain ⟨N, hN⟩ : ∃ N : Nat, c.wi = N := ⟨c.wi.toNat, by omega⟩
  obtain ⟨E, hE⟩ : ∃ E : Nat, c.ev = E := ⟨c.ev.toNat, by omega⟩
  obtain ⟨A1, c1, A2, c2, hv, hB, hC⟩ := hc
  rw [hN, hE] at hv
  subst hv
  have HN := hid hN
  have HE := hid hE
  have hN6 : N ≤ 6 := by omega
  have hE2 : 2 ≤ E := by omega
  have hE6 : E ≤ 6 := by omega
  clear hb2 hh2 hh1 hs1 hD hM hx1 hwi hev2 hev6 hI hN hE
  have xa := Ext.alloc (Ext.refl w2) (.cells #[.int .i64 (E : Int), .slice A1 c.bs.length c1, .int .i64 (N : Int), .slice A2 c.cl.length c2] 26)
  have G2 := heap_alloc_new w2 (.cells #[.int .i64 (E : Int), .slice A1 c.bs.length c1, .int .i64 (N : Int), .slice A2 c.cl.length c2] 26)
  have q0 : (w2.alloc (.cells #[.int .i64 (E : Int), .slice A1 c.bs.length c1, .int .i64 (N : Int), .slice A2 c.cl.length c2] 26)).cell? ⟨w2.heap.size, 0, none⟩ = some (.int .i64 (E : Int)) := block_cell (i := 0) G2
  have hr1 : p1.tmod (E : Int) = p1 % (E : Int) := Int.tmod_eq_emod_of_nonneg p10
  have hr2 : p2.tmod (E : Int) = p2 % (E : Int) := Int.tmod_eq_emod_of_nonneg p20
  have hE0 : ¬ (E : Int) = 0 := by omega
  go_wp2
  go_quiet (fail)
  go_wp2_with fail
  obtain ⟨an, han⟩ : ∃ k : Nat, p1 % (E : Int) = k := ⟨(p1 % (E : Int)).toNat, by have := Int.emod_nonneg p1 hE0; omega⟩
  obtain ⟨bn, hbn⟩ : ∃ k : Nat, p2 % (E : Int) = k := ⟨(p2 % (E : Int)).toNat, by have := Int.emod_nonneg p2 hE0; omega⟩
  have hanE : an < E := by have := Int.emod_lt_of_pos p1 (show 0 < (E : Int) by omega); omega
  have hbnE : bn < E := by have := Int.emod_lt_of_pos p2 (show 0 < (E : Int) by omega); omega
  rw [han, hbn]
  have HG := hid G2
  have HXA := hid xa
  obtain ⟨W3, hW3⟩ : ∃ W3 : World, (w2.alloc (.cells #[.int .i64 (E : Int), .slice A1 c.bs.length c1, .int .i64 (N : Int), .slice A2 c.cl.length c2] 26)).drewN nq = W3 := ⟨_, rfl⟩
  rw [hW3]
  have xb : Ext w2 W3 := by rw [← hW3]; exact xa.drewN _
  have G3 : W3.heap[w2.heap.size]? = some (.cells #[.int .i64 (E : Int), .slice A1 c.bs.length c1, .int .i64 (N : Int), .slice A2 c.cl.length c2] 26 (0, 0)) := by rw [← hW3]; exact G2
  clear hW3 han hbn hr1 hr2 G2 xa q0 HG HXA
  obtain ⟨Bc, hBc⟩ : ∃ Bc, w2.heap.size = Bc := ⟨_, rfl⟩
  rw [hBc] at G3 ⊢
  clear hBc
  have hBc3 : Bc < W3.heap.size := (Array.getElem?_eq_some_iff.1 G3).1
  have FC : Hid (∀ w', Ext W3 w' → w'.cell? ⟨Bc, 0, none⟩ = some (.int .i64 (E : Int)) ∧ w'.cell? ⟨Bc, 1, none⟩ = some (.slice A1 c.bs.length c1) ∧ w'.cell? ⟨Bc, 2, none⟩ = some (.int .i64 (N : Int)) ∧ w'.cell? ⟨Bc, 3, none⟩ = some (.slice A2 c.cl.length c2)) := fun w' h => by
    have G := (Below.block h Bc hBc3).trans G3
    exact ⟨block_cell (i := 0) G, block_cell (i := 1) G, block_cell (i := 2) G, block_cell (i := 3) G⟩
  have HC : Hid (∀ w', Ext W3 w' → CsR w' (.agg #[.int .i64 (E : Int), .slice A1 c.bs.length c1, .int .i64 (N : Int), .slice A2 c.cl.length c2]) c) := fun w' h => ⟨A1, c1, A2, c2, by rw [HN.out, HE.out], (hB.ext xb).ext h, (hC.ext xb).ext h⟩
  have HX3 := hid (x2.trans xb)
  have HSZ := hid hsz
  have H0 := hid h0
  have OK := hid (needed_ok h0 hf (a := an) (b := bn) (by rw [HE.out]; omega) (by rw [HE.out]; omega))
  have hbe := before_is h0 hf (a := an) (b := bn) (by rw [HE.out]; omega) (by rw [HE.out]; omega)
  have K1 := before_any _ c (an : Int) (bn : Int) W3 (HC.out W3 (Ext.refl _)) hsz
  have hb0 : (beforeOf c (an : Int) (bn : Int)).2 = 0 := by rw [hbe]
  rw [hb0] at K1
  have K2 := fun w' h => needed_any _ c (an : Int) (bn : Int) w' (HC.out w' h) hsz
  have HY := hid OK.out.yes
  have HCO := hid OK.out.code
  obtain ⟨V, hV⟩ : ∃ V, (beforeOf c (an : Int) (bn : Int)).1 = V := ⟨_, rfl⟩
  obtain ⟨K, hK⟩ : ∃ K, neededC c (an : Int) (bn : Int) = K := ⟨_, rfl⟩
  rw [hV] at K1 HY
  rw [hK] at K2 HY HCO
  have HV := hid hV
  have HK1 := hid K1
  have HK2 := hid K2
  clear hB hC x2 xb G3 hsz h0 hf hBc3 hbe hb0 hV hK K1 K2
  obtain ⟨q0, q1, q2, q3⟩ := FC.out W3 (Ext.refl _)
  refine HK1.out.mono ?_
  clear HK1 q0 q1 q2 q3
  rintro e w4 ⟨rfl, h4⟩
  obtain ⟨q0, q1, q2, q3⟩ := FC.out w4 h4
  go_wp2_with fail
  refine (HK2.out w4 h4).mono ?_
  clear HK2 q0 q1 q2 q3
  rintro e w5 ⟨rN, rfl, h5, hr6, hr0⟩
  have hx5 := h4.trans h5
  rcases HCO.out with hk | hk
  · subst hk
    have hv1 : V = 1 := HY.out.1 rfl
    subst hv1
    obtain ⟨L, A5, c5, e5, rfl, hI5⟩ := hr0 (by first | rfl | trivial)
    rw [Int.toNat_natCast, Int.toNat_natCast] at e5
    obtain ⟨hasc, hfew⟩ := OK.out.few L e5
    have hll : L.length ≤ 6 := by
      rcases hasc.len with h | h
      · have := HN.out; omega
      · rw [h]; simp
    have HASC := hid hasc.lt
    have HFEW := hid hfew
    have HI5 := hid hI5
    clear hr6 hr0 e5 hasc hfew hI5 HCO HY HV h4 h5
    go_wp2_with fail
    refine (issorted_any A5 c5 L w5 HI5.out (by omega) HASC.out).mono ?_
    rintro e w6 ⟨rfl, h6⟩
    have hx6 := hx5.trans h6
    have HI6 := hid (Ints.ext HI5.out h6)
    obtain ⟨q0, q1, q2, q3⟩ := FC.out w6 hx6
    obtain ⟨M, hM⟩ : ∃ M : Nat, 2 ^ N = M := ⟨_, rfl⟩
    have hM64 : M ≤ 64 := by
      have h7 : N = 0 ∨ N = 1 ∨ N = 2 ∨ N = 3 ∨ N = 4 ∨ N = 5 ∨ N = 6 := by omega
      rcases h7 with h | h | h | h | h | h | h <;> rw [h] at hM <;> subst hM <;> decide
    have e2 : ((2 : Int) ^ N) = (M : Int) := by rw [← hM]; simp
    have hMw : wrap64 ((2 : Int) ^ N) = (M : Int) := by rw [e2]; exact IntWalk.wrap64_in _ (by omega)
    clear hM e2
    go_wp2
    rw [hMw]
    clear hMw q0 q1 q2 q3
    go_loopw [77] (fun i wr => ∃ s : Nat, i = .int .i64 (s : Int) ∧ s ≤ M ∧ Ext w6 wr) (fun i _ => (M - (intOf i).toNat))
    case atStart => exact ⟨0, rfl, by omega, Ext.refl _⟩
    case round =>
      obtain ⟨s, rfl, hs, hx⟩ := hrel
      by_cases hlts : s < M
      · have hlts' : (s : Int) < (M : Int) := by omega
        obtain ⟨W9, rfl⟩ : ∃ W9 : World, W9 = wr := ⟨_, rfl⟩
        have xo := Ext.alloc (Ext.refl W9) (.cells #[.slice none 0 0] 27)
        have GB := heap_alloc_new W9 (.cells #[.slice none 0 0] 27)
        have qa : ∀ o, (W9.alloc o).cell? ⟨Bc, 2, none⟩ = some (.int .i64 (N : Int)) := fun o => (FC.out _ (hx6.trans (hx.trans (Ext.alloc (Ext.refl W9) o)))).2.2.1
        go_wp2
        clear qa
        have hso : W9.heap.size + 1 = (W9.alloc (.cells #[.slice none 0 0] 27)).heap.size := by simp
        generalize hWA : W9.alloc (.cells #[.slice none 0 0] 27) = WA at xo GB hso ⊢
        clear hWA
        obtain ⟨BS, hBS⟩ : ∃ BS, W9.heap.size = BS := ⟨_, rfl⟩
        rw [hBS] at GB hso ⊢
        have HBS9 := hid hBS
        have HSO := hid hso
        clear hBS hso
        go_loopw [82] (fun i wr => ∃ (n : Nat) (A7 : Option Addr) (c7 : Nat), i = .int .i64 (n : Int) ∧ n ≤ N ∧ Hid (wr.heap[BS]? = some (.cells #[.slice A7 (someW (s.testBit ·) n).length c7] 27 (0, 0))) ∧
          Hid (wr.ownsRow (BS + 1) 3 1 (.slice A7 (someW (s.testBit ·) n).length c7) (someW (s.testBit ·) n).length ((someW (s.testBit ·) n).map (.int .i64))) ∧ Ext W9 wr ∧ BS + 1 ≤ wr.heap.size) (fun i _ => (N - (intOf i).toNat))
        case atStart => exact ⟨0, none, 0, rfl, by omega, GB, own_nil _ _ _ _, xo, by rw [HSO.out]; exact Nat.le_refl _⟩
        case round =>
          obtain ⟨n, A7, c7, rfl, hn, HGB, HO7, hxn, hsz9⟩ := hrel
          by_cases hltn : n < N
          · have hltn' : (n : Int) < (N : Int) := by omega
            have hs64 : s < 64 := by omega
            have hsn1 := someW_snoc (s.testBit ·) n
            have hl1 := someW_len (s.testBit ·) n
            cases hbit : s.testBit n
            · have hb0 : (bits BinOp.and IntKind.i64 ((s : Int) / 2 ^ n) 1 == 1) = false := bit_no hs64 (by omega) hbit
              simp only [hbit, Bool.false_eq_true, if_false, List.append_nil] at hsn1
              have HSN1 := hid hsn1
              clear hsn1 hbit
              go_wp2
              go_roundw
              case rel => exact ⟨n + 1, A7, c7, by go_num, by omega, by rw [HSN1.out]; exact HGB.out, by rw [HSN1.out]; exact HO7.out, hxn, hsz9⟩
              case measure => simp [intOf]; omega
            · have hb1 : (bits BinOp.and IntKind.i64 ((s : Int) / 2 ^ n) 1 == 1) = true := bit_yes hs64 (by omega) hbit
              simp only [hbit, if_true] at hsn1
              have HSN1 := hid hsn1
              generalize someW (s.testBit ·) n = G at *
              have xo2 := Ext.alloc (Ext.refl wr) (.cells #[.int .i64 (n : Int)] 3)
              have O7 := hid (own_below HO7.out xo2)
              have HRD := hid (rd_block (heap_alloc_new wr (.cells #[.int .i64 (n : Int)] 3)) : Rd (wr.alloc (.cells #[.int .i64 (n : Int)] 3)) (some ⟨wr.heap.size, 0, none⟩) [.int .i64 (n : Int)])
              have bc := block_cell (i := 0) HGB.out
              simp only [List.getElem?_toArray, List.getElem?_cons_zero] at bc
              clear hsn1 hbit
              go_wp2_with (at_builtin; refine wpList_append_rd2 _ rfl _ _ 27 rfl elem_int (BS + 1) _ G.length (G.map (.int .i64)) rfl O7.out _ 1 1 [.int .i64 (n : Int)] rfl rfl HRD.out (by intro u hu; simp at hu; subst hu; rfl) (by omega) (by simp; omega) ?_)
              intro A9 c9 w9 ho9 hb9 hg9 hat9
              have hG9 : w9.heap[BS]? = some (.cells #[.slice A7 G.length c7] 27 (0, 0)) := (Below.block hb9 BS (by omega)).trans ((Below.block xo2 BS (by omega)).trans HGB.out)
              have bf := block_free (i := 0) hG9
              have bc9 := block_cell (i := 0) hG9
              simp only [List.getElem?_toArray, List.getElem?_cons_zero] at bc9
              have O9 := hid ho9
              have h9s : BS + 1 ≤ w9.heap.size := by have := hb9.size; have := xo2.size; omega
              have hx9 : Ext W9 w9 := Below.trans (hxn.trans xo2) (Below.mono hb9 (by rw [HBS9.out]; omega))
              have HG9 := hid hG9
              clear ho9 hb9 hg9 hat9 O7 HRD HO7 bc hG9
              go_wp2
              have NG : Hid ((w9.setCell ⟨BS, 0, none⟩ (.slice A9 (G.length + 1) c9)).heap[BS]? = some (.cells #[.slice A9 (G ++ [(n : Int)]).length c9] 27 (0, 0))) := by
                unfold Hid
                have := heap_set HG9.out (i := 0) (.slice A9 (G.length + 1) c9)
                simpa using this
              have NO : Hid ((w9.setCell ⟨BS, 0, none⟩ (.slice A9 (G.length + 1) c9)).ownsRow (BS + 1) 3 1 (.slice A9 (G ++ [(n : Int)]).length c9) (G ++ [(n : Int)]).length ((G ++ [(n : Int)]).map (.int .i64))) := by
                unfold Hid
                have hbs : BelS (fun j => j = BS) w9 (w9.setCell ⟨BS, 0, none⟩ (.slice A9 (G.length + 1) c9)) := (BelS.refl _ w9).setCell (S := fun j => j = BS) ⟨BS, 0, none⟩ _ rfl
                have := hbs.own O9.out (fun g hg e => by have := (O9.out.lt g hg).1; omega)
                simpa using this
              have NX : Ext W9 (w9.setCell ⟨BS, 0, none⟩ (.slice A9 (G.length + 1) c9)) := hx9.setCell (by rw [HBS9.out]; exact Nat.le_refl _) _
              have NS : BS + 1 ≤ (w9.setCell ⟨BS, 0, none⟩ (.slice A9 (G.length + 1) c9)).heap.size := by simpa using h9s
              go_roundw
              case rel => exact ⟨n + 1, A9, c9, by go_num, by omega, by rw [HSN1.out]; exact NG.out, by rw [HSN1.out]; exact NO.out, NX, NS⟩
              case measure => simp [intOf]; omega
          · have hltn' : ¬ (n : Int) < (N : Int) := by omega
            have hnk : n = N := by omega
            rw [hnk] at HGB HO7
            have hnn : c.wi.toNat = N := by rw [HN.out]; simp
            obtain ⟨hb2, hb1⟩ := OK.out.sets (fun x => s.testBit x)
            rw [hnn] at hb1 hb2
            have hasc := someW_asc (fun x => s.testBit x) N
            have hl1 := someW_len (fun x => s.testBit x) N
            obtain ⟨f1, f2, f3⟩ := HFEW.out (fun x => s.testBit x)
            rw [hnn] at f1 f2 f3
            try dsimp only at hb1 hb2 f1 f2 f3
            have HF1 := hid f1
            have HF2 := hid f2
            have HF3 := hid f3
            clear f1 f2 f3
            generalize someW (fun x => s.testBit x) N = G at *
            have hcap : G.length ≤ c7 := by
              rcases HO7.out.2 with ⟨h, h2⟩ | ⟨_, cap', _, h, _, _, hnc, _⟩
              · omega
              · cases h; exact hnc
            have HG := hid (Rd.of_own HO7.out)
            have KB := believe_any _ c A7 c7 G wr (HC.out wr (hx6.trans (hx.trans hxn))) HSZ.out HG.out (by omega) hcap
            have hbc : believeC c G = 0 := by
              have e : ¬ checkC c ≠ 0 := by simp [H0.out]
              unfold believeC
              rw [if_neg e, HN.out]
              exact witE_asc hasc (fun x h => by cases h)
            unfold BelPost at KB
            rw [hbc] at KB
            have HSU := hid (believe_sized HSZ.out (fun x => memI x G))
            generalize (c.believe fun x => memI x G) = u at *
            have HK := hid KB
            have HB1 := hid hb1
            have HB2 := hid hb2
            have bc := block_cell (i := 0) HGB.out
            simp only [List.getElem?_toArray, List.getElem?_cons_zero] at bc
            obtain ⟨q0, q1, q2, q3⟩ := FC.out wr (hx6.trans (hx.trans hxn))
            have hBSl : BS < wr.heap.size := by omega
            clear KB hbc hnn hasc hb1 hb2 HO7 hcap
            go_wp2_with fail
            refine HK.out.mono ?_
            rintro e w10 ⟨r, rfl, h10, -, hr⟩
            have hfr := (hr (by first | rfl | trivial)).toR
            obtain ⟨U1, u1, U2, u2, rfl, hb1, hb2⟩ := hfr
            have xo3 := Ext.alloc (Ext.refl w10) (.cells #[.int .i64 u.ev, .slice U1 u.bs.length u1, .int .i64 u.wi, .slice U2 u.cl.length u2] 26)
            have h1x := h10.trans xo3
            have KT := before_any _ u (an : Int) (bn : Int) (w10.alloc (.cells #[.int .i64 u.ev, .slice U1 u.bs.length u1, .int .i64 u.wi, .slice U2 u.cl.length u2] 26)) ⟨U1, u1, U2, u2, rfl, hb1.ext xo3, hb2.ext xo3⟩ HSU.out
            rw [HB2.out] at KT
            have hG10 := hid (Ints.ext HG.out h1x)
            have HGB10 := hid ((Below.block h1x BS hBSl).trans HGB.out)
            have hx10 := hxn.trans h1x
            have hBS10 : BS < (w10.alloc (.cells #[.int .i64 u.ev, .slice U1 u.bs.length u1, .int .i64 u.wi, .slice U2 u.cl.length u2] 26)).heap.size := by have := h1x.size; omega
            have HKT := hid KT
            clear hr hb1 hb2 HK q0 q1 q2 q3 h10 HG KT bc HGB hBSl h1x xo3
            generalize (beforeOf u (an : Int) (bn : Int)).1 = Wv at *
            go_wp2_with fail
            refine HKT.out.mono ?_
            rintro e w11 ⟨rfl, h11⟩
            have hx11 := hx10.trans h11
            have hG11 := hid (Ints.ext hG10.out h11)
            have HGB11 := hid ((Below.block h11 BS hBS10).trans HGB10.out)
            have hBS11 : BS < w11.heap.size := by have := h11.size; omega
            have bc := block_cell (i := 0) HGB11.out
            simp only [List.getElem?_toArray, List.getElem?_cons_zero] at bc
            clear HKT hx10 hG10 HGB10 hBS10 h11
            have hL11 := hid (Ints.ext HI6.out (hx.trans hx11))
            by_cases hw : Wv = 1
            · subst hw
              have hfw : fewerL G L = false := HF1.out rfl
              have KF := fewer_any A7 c7 G A5 c5 L w11 hG11.out hL11.out (by omega) (by omega)
              rw [hfw] at KF
              have HKF := hid KF
              clear KF hfw
              go_wp2_with fail
              refine HKF.out.mono ?_
              rintro e w12 ⟨rfl, hw12⟩
              subst hw12
              have KC := containsFunc_int A5 c5 L _ anyx _ w12 hL11.out (by omega) (anyx_all L) (neededL_fn w12 BS A7 c7 G (by rw [block_cell HGB11.out]; rfl) hG11.out (by omega))
              have HKC := hid KC
              clear KC HKF
              go_wp2_with fail
              refine HKC.out.mono ?_
              rintro e w13 ⟨rfl, h13⟩
              cases hq : L.any fun n => !memI n G
              · clear hq
                go_wp2
                go_roundw
                case rel => exact ⟨s + 1, by go_num, by omega, hx.trans (hx11.trans h13)⟩
                case measure => simp [intOf]; omega
              · clear hq
                go_wp2
                go_roundw
                case rel => exact ⟨s + 1, by go_num, by omega, hx.trans (hx11.trans h13)⟩
                case measure => simp [intOf]; omega
            · have hwb : (Wv == 1) = false := by simpa using hw
              have hne : (G == L) = false := by
                rw [Bool.eq_false_iff]; intro h
                exact hw (HF2.out (by simpa using h))
              have KE := eq_int A7 A5 c7 c5 G L w11 hG11.out hL11.out (by omega) (by omega)
              rw [hne] at KE
              have HKE := hid KE
              have hany : (L.any fun n => !memI n G) = true := by
                cases hq : L.any fun n => !memI n G
                · exfalso
                  refine hw (HF3.out fun n hn => ?_)
                  rw [List.any_eq_false] at hq
                  have := hq n hn
                  exact mem_memI.1 (by simpa using this)
                · rfl
              have HANY := hid hany
              clear KE hne hany
              go_wp2_with fail
              refine HKE.out.mono ?_
              rintro e w12 ⟨rfl, h12⟩
              have hG12 := Ints.ext hG11.out h12
              have hL12 := Ints.ext hL11.out h12
              have KC := containsFunc_int A5 c5 L _ anyx _ w12 hL12 (by omega) (anyx_all L) (neededL_fn w12 BS A7 c7 G (by rw [block_cell ((Below.block h12 BS hBS11).trans HGB11.out)]; rfl) hG12 (by omega))
              rw [HANY.out] at KC
              have HKC := hid KC
              clear KC HKE hG12 hL12
              go_wp2_with fail
              refine HKC.out.mono ?_
              rintro e w13 ⟨rfl, h13⟩
              go_wp2
              go_roundw
              case rel => exact ⟨s + 1, by go_num, by omega, hx.trans (hx11.trans (h12.trans h13))⟩
              case measure => simp [intOf]; omega
      · have hlts' : ¬ (s : Int) < (M : Int) := by omega
        go_wp2_with fail
        refine (awake_any wr).mono ?_
        rintro e w13 ⟨rfl, hx13⟩
        go_wp2
        go_ret
        exact ⟨rfl, HX3.out.trans (hx6.trans (hx.trans hx13))⟩
  · subst hk
    have hv1 : ¬ V = 1 := fun h => by have := HY.out.2 h; omega
    have hv1' : (V == 1) = false := by simpa using hv1
    obtain rfl := hr6 (by decide)
    have HV1 := hid hv1
    clear hr6 hr0 HCO HY h4 h5 hv1
    go_wp2_with fail
    refine (issorted_any none 0 [] w5 (Ints.nil _ _) (by simp) .nil).mono ?_
    rintro e w6 ⟨rfl, h6⟩
    have hx6 := hx5.trans h6
    obtain ⟨q0, q1, q2, q3⟩ := FC.out w6 hx6
    obtain ⟨M, hM⟩ : ∃ M : Nat, 2 ^ N = M := ⟨_, rfl⟩
    have hM64 : M ≤ 64 := by
      have h7 : N = 0 ∨ N = 1 ∨ N = 2 ∨ N = 3 ∨ N = 4 ∨ N = 5 ∨ N = 6 := by omega
      rcases h7 with h | h | h | h | h | h | h <;> rw [h] at hM <;> subst hM <;> decide
    have e2 : ((2 : Int) ^ N) = (M : Int) := by rw [← hM]; simp
    have hMw : wrap64 ((2 : Int) ^ N) = (M : Int) := by rw [e2]; exact IntWalk.wrap64_in _ (by omega)
    clear hM e2
    go_wp2
    rw [hMw]
    clear hMw q0 q1 q2 q3
    go_loopw [77] (fun i wr => ∃ s : Nat, i = .int .i64 (s : Int) ∧ s ≤ M ∧ Ext w6 wr) (fun i _ => (M - (intOf i).toNat))
    case atStart => exact ⟨0, rfl, by omega, Ext.refl _⟩
    case round =>
      obtain ⟨s, rfl, hs, hx⟩ := hrel
      by_cases hlts : s < M
      · have hlts' : (s : Int) < (M : Int) := by omega
        obtain ⟨W9, rfl⟩ : ∃ W9 : World, W9 = wr := ⟨_, rfl⟩
        have xo := Ext.alloc (Ext.refl W9) (.cells #[.slice none 0 0] 27)
        have GB := heap_alloc_new W9 (.cells #[.slice none 0 0] 27)
        have qa : ∀ o, (W9.alloc o).cell? ⟨Bc, 2, none⟩ = some (.int .i64 (N : Int)) := fun o => (FC.out _ (hx6.trans (hx.trans (Ext.alloc (Ext.refl W9) o)))).2.2.1
        go_wp2
        clear qa
        have hso : W9.heap.size + 1 = (W9.alloc (.cells #[.slice none 0 0] 27)).heap.size := by simp
        generalize hWA : W9.alloc (.cells #[.slice none 0 0] 27) = WA at xo GB hso ⊢
        clear hWA
        obtain ⟨BS, hBS⟩ : ∃ BS, W9.heap.size = BS := ⟨_, rfl⟩
        rw [hBS] at GB hso ⊢
        have HBS9 := hid hBS
        have HSO := hid hso
        clear hBS hso
        go_loopw [82] (fun i wr => ∃ (n : Nat) (A7 : Option Addr) (c7 : Nat), i = .int .i64 (n : Int) ∧ n ≤ N ∧ Hid (wr.heap[BS]? = some (.cells #[.slice A7 (someW (s.testBit ·) n).length c7] 27 (0, 0))) ∧
          Hid (wr.ownsRow (BS + 1) 3 1 (.slice A7 (someW (s.testBit ·) n).length c7) (someW (s.testBit ·) n).length ((someW (s.testBit ·) n).map (.int .i64))) ∧ Ext W9 wr ∧ BS + 1 ≤ wr.heap.size) (fun i _ => (N - (intOf i).toNat))
        case atStart => exact ⟨0, none, 0, rfl, by omega, GB, own_nil _ _ _ _, xo, by rw [HSO.out]; exact Nat.le_refl _⟩
        case round =>
          obtain ⟨n, A7, c7, rfl, hn, HGB, HO7, hxn, hsz9⟩ := hrel
          by_cases hltn : n < N
          · have hltn' : (n : Int) < (N : Int) := by omega
            have hs64 : s < 64 := by omega
            have hsn1 := someW_snoc (s.testBit ·) n
            have hl1 := someW_len (s.testBit ·) n
            cases hbit : s.testBit n
            · have hb0 : (bits BinOp.and IntKind.i64 ((s : Int) / 2 ^ n) 1 == 1) = false := bit_no hs64 (by omega) hbit
              simp only [hbit, Bool.false_eq_true, if_false, List.append_nil] at hsn1
              have HSN1 := hid hsn1
              clear hsn1 hbit
              go_wp2
              go_roundw
              case rel => exact ⟨n + 1, A7, c7, by go_num, by omega, by rw [HSN1.out]; exact HGB.out, by rw [HSN1.out]; exact HO7.out, hxn, hsz9⟩
              case measure => simp [intOf]; omega
            · have hb1 : (bits BinOp.and IntKind.i64 ((s : Int) / 2 ^ n) 1 == 1) = true := bit_yes hs64 (by omega) hbit
              simp only [hbit, if_true] at hsn1
              have HSN1 := hid hsn1
              generalize someW (s.testBit ·) n = G at *
              have xo2 := Ext.alloc (Ext.refl wr) (.cells #[.int .i64 (n : Int)] 3)
              have O7 := hid (own_below HO7.out xo2)
              have HRD := hid (rd_block (heap_alloc_new wr (.cells #[.int .i64 (n : Int)] 3)) : Rd (wr.alloc (.cells #[.int .i64 (n : Int)] 3)) (some ⟨wr.heap.size, 0, none⟩) [.int .i64 (n : Int)])
              have bc := block_cell (i := 0) HGB.out
              simp only [List.getElem?_toArray, List.getElem?_cons_zero] at bc
              clear hsn1 hbit
              go_wp2_with (at_builtin; refine wpList_append_rd2 _ rfl _ _ 27 rfl elem_int (BS + 1) _ G.length (G.map (.int .i64)) rfl O7.out _ 1 1 [.int .i64 (n : Int)] rfl rfl HRD.out (by intro u hu; simp at hu; subst hu; rfl) (by omega) (by simp; omega) ?_)
              intro A9 c9 w9 ho9 hb9 hg9 hat9
              have hG9 : w9.heap[BS]? = some (.cells #[.slice A7 G.length c7] 27 (0, 0)) := (Below.block hb9 BS (by omega)).trans ((Below.block xo2 BS (by omega)).trans HGB.out)
              have bf := block_free (i := 0) hG9
              have bc9 := block_cell (i := 0) hG9
              simp only [List.getElem?_toArray, List.getElem?_cons_zero] at bc9
              have O9 := hid ho9
              have h9s : BS + 1 ≤ w9.heap.size := by have := hb9.size; have := xo2.size; omega
              have hx9 : Ext W9 w9 := Below.trans (hxn.trans xo2) (Below.mono hb9 (by rw [HBS9.out]; omega))
              have HG9 := hid hG9
              clear ho9 hb9 hg9 hat9 O7 HRD HO7 bc hG9
              go_wp2
              have NG : Hid ((w9.setCell ⟨BS, 0, none⟩ (.slice A9 (G.length + 1) c9)).heap[BS]? = some (.cells #[.slice A9 (G ++ [(n : Int)]).length c9] 27 (0, 0))) := by
                unfold Hid
                have := heap_set HG9.out (i := 0) (.slice A9 (G.length + 1) c9)
                simpa using this
              have NO : Hid ((w9.setCell ⟨BS, 0, none⟩ (.slice A9 (G.length + 1) c9)).ownsRow (BS + 1) 3 1 (.slice A9 (G ++ [(n : Int)]).length c9) (G ++ [(n : Int)]).length ((G ++ [(n : Int)]).map (.int .i64))) := by
                unfold Hid
                have hbs : BelS (fun j => j = BS) w9 (w9.setCell ⟨BS, 0, none⟩ (.slice A9 (G.length + 1) c9)) := (BelS.refl _ w9).setCell (S := fun j => j = BS) ⟨BS, 0, none⟩ _ rfl
                have := hbs.own O9.out (fun g hg e => by have := (O9.out.lt g hg).1; omega)
                simpa using this
              have NX : Ext W9 (w9.setCell ⟨BS, 0, none⟩ (.slice A9 (G.length + 1) c9)) := hx9.setCell (by rw [HBS9.out]; exact Nat.le_refl _) _
              have NS : BS + 1 ≤ (w9.setCell ⟨BS, 0, none⟩ (.slice A9 (G.length + 1) c9)).heap.size := by simpa using h9s
              go_roundw
              case rel => exact ⟨n + 1, A9, c9, by go_num, by omega, by rw [HSN1.out]; exact NG.out, by rw [HSN1.out]; exact NO.out, NX, NS⟩
              case measure => simp [intOf]; omega
          · have hltn' : ¬ (n : Int) < (N : Int) := by omega
            have hnk : n = N := by omega
            rw [hnk] at HGB HO7
            have hnn : c.wi.toNat = N := by rw [HN.out]; simp
            obtain ⟨hb2, hb1⟩ := OK.out.sets (fun x => s.testBit x)
            rw [hnn] at hb1 hb2
            have hasc := someW_asc (fun x => s.testBit x) N
            have hl1 := someW_len (fun x => s.testBit x) N
            try dsimp only at hb1 hb2
            generalize someW (fun x => s.testBit x) N = G at *
            have hcap : G.length ≤ c7 := by
              rcases HO7.out.2 with ⟨h, h2⟩ | ⟨_, cap', _, h, _, _, hnc, _⟩
              · omega
              · cases h; exact hnc
            have HG := hid (Rd.of_own HO7.out)
            have KB := believe_any _ c A7 c7 G wr (HC.out wr (hx6.trans (hx.trans hxn))) HSZ.out HG.out (by omega) hcap
            have hbc : believeC c G = 0 := by
              have e : ¬ checkC c ≠ 0 := by simp [H0.out]
              unfold believeC
              rw [if_neg e, HN.out]
              exact witE_asc hasc (fun x h => by cases h)
            unfold BelPost at KB
            rw [hbc] at KB
            have HSU := hid (believe_sized HSZ.out (fun x => memI x G))
            generalize (c.believe fun x => memI x G) = u at *
            have HK := hid KB
            have HB1 := hid hb1
            have HB2 := hid hb2
            have bc := block_cell (i := 0) HGB.out
            simp only [List.getElem?_toArray, List.getElem?_cons_zero] at bc
            obtain ⟨q0, q1, q2, q3⟩ := FC.out wr (hx6.trans (hx.trans hxn))
            have hBSl : BS < wr.heap.size := by omega
            clear KB hbc hnn hasc hb1 hb2 HO7 hcap
            go_wp2_with fail
            refine HK.out.mono ?_
            rintro e w10 ⟨r, rfl, h10, -, hr⟩
            have hfr := (hr (by first | rfl | trivial)).toR
            obtain ⟨U1, u1, U2, u2, rfl, hb1, hb2⟩ := hfr
            have xo3 := Ext.alloc (Ext.refl w10) (.cells #[.int .i64 u.ev, .slice U1 u.bs.length u1, .int .i64 u.wi, .slice U2 u.cl.length u2] 26)
            have h1x := h10.trans xo3
            have KT := before_any _ u (an : Int) (bn : Int) (w10.alloc (.cells #[.int .i64 u.ev, .slice U1 u.bs.length u1, .int .i64 u.wi, .slice U2 u.cl.length u2] 26)) ⟨U1, u1, U2, u2, rfl, hb1.ext xo3, hb2.ext xo3⟩ HSU.out
            rw [HB2.out] at KT
            have hG10 := hid (Ints.ext HG.out h1x)
            have HGB10 := hid ((Below.block h1x BS hBSl).trans HGB.out)
            have hx10 := hxn.trans h1x
            have hBS10 : BS < (w10.alloc (.cells #[.int .i64 u.ev, .slice U1 u.bs.length u1, .int .i64 u.wi, .slice U2 u.cl.length u2] 26)).heap.size := by have := h1x.size; omega
            have HKT := hid KT
            clear hr hb1 hb2 HK q0 q1 q2 q3 h10 HG KT bc HGB hBSl h1x xo3
            generalize (beforeOf u (an : Int) (bn : Int)).1 = Wv at *
            go_wp2_with fail
            refine HKT.out.mono ?_
            rintro e w11 ⟨rfl, h11⟩
            have hx11 := hx10.trans h11
            have hG11 := hid (Ints.ext hG10.out h11)
            have HGB11 := hid ((Below.block h11 BS hBS10).trans HGB10.out)
            have hBS11 : BS < w11.heap.size := by have := h11.size; omega
            have bc := block_cell (i := 0) HGB11.out
            simp only [List.getElem?_toArray, List.getElem?_cons_zero] at bc
            clear HKT hx10 hG10 HGB10 hBS10 h11
            have hw : ¬ Wv = 1 := fun h => HV1.out (HV.out.symm.trans (HB1.out h))
            have hwb : (Wv == 1) = false := by simpa using hw
            go_wp2
            go_roundw
            case rel => exact ⟨s + 1, by go_num, by omega, hx.trans hx11⟩
            case measure => simp [intOf]; omega
      · have hlts' : ¬ (s : Int) < (M : Int) := by omega
        go_wp2_with fail
        refine (awake_any wr).mono ?_
        rintro e w13 ⟨rfl, hx13⟩
        go_wp2
        go_ret
        exact ⟨rfl, HX3.out.trans (hx6.trans (hx.trans hx13))⟩
end Go.Proofs.Ytgnjhaomlbkgcaa

namespace Go.Proofs.Ytgnjhaomlbkgcaa
open Go.ChangeShapes Go.WideShapes Go.ChangeAt Go.RowKit
open Go.ChangeMaps (open_string shut_string)
set_option linter.unusedVariables false
set_option linter.unusedSimpArgs false

theorem needed_walk (a0 : Option Addr) (len0 cap0 : Nat) (z0 : List Int) (a1 : Int) (a2 : Int) (w : World) (w0 : IsRow .u8 w a0 len0 cap0 z0) (w1 : (Lit.int .u8 a1).wf = true) (w2 : (Lit.int .u8 a2).wf = true) :
    Calls Try.prog 13 #[.slice a0 len0 cap0, .int .u8 a1, .int .u8 a2] w fun e w' => e = .returned (.bool true) ∧ Below w.heap.size w w' := by
  obtain ⟨l0, rfl, hA0, hl0, hlt0, hn0⟩ := w0.bytes
  obtain ⟨b1, b1'⟩ := wf_u8 w1
  obtain ⟨b2, b2'⟩ := wf_u8 w2
  exact neededw_any a0 l0 cap0 a1 a2 w hA0 hl0 hlt0 hn0 b1 b1' b2 b2'

set_option maxRecDepth 100000 in
theorem needed_lifted (os : Os) (started : os.Started) (H : Type) (enc : TypeId × Value → H) :
    ReturnsInHanded {} Try.checked os 13 .any (Rows.warnNeededSpec.pre6 enc Try.prog Try.f13 Rows.warnNeededRow.domain false) (Rows.warnNeededSpec.post enc Try.prog Try.f13 false true false false) := by
  refine returnsInHanded_of_change (C := Try.checked) lOwn started (by kernel_rfl) Try.func13
    (ChangeSpec.witness6 (enc := enc) (C := Try.checked) false ⟨#[], #[.slice none 0 0, .int .u8 0, .int .u8 0], []⟩ 8 (by kernel_rfl) (by kernel_rfl) (by kernel_rfl) (by kernel_rfl)) ?_
  intro W base args ds gs before hval0 hW hcnd _
  have hval : ∀ (j : Nat) t v, Try.f13.params[j]? = some t → args[j]? = some v → Value.okWide Try.prog W .any base t v := hval0
  have hW' := hW
  obtain ⟨p, q, hA0, hV, rfl, hfz, hnd⟩ := hW
  have hA : DataW.TrodAll enc Try.prog W 0 (fun _ => true) true Try.f13.params.toList args.toList ds p := hA0
  rw [Try.params13] at hA hval
  obtain ⟨v0, vs0, d0, ds0, p0, q0, hargs, rfl, rfl, h0, r0⟩ := trodAll_cons hA
  obtain ⟨v1, vs1, d1, ds1, p1, q1, rfl, rfl, rfl, h1, r1⟩ := trodAll_cons r0
  obtain ⟨v2, vs2, d2, ds2, p2, q2, rfl, rfl, rfl, h2, r2⟩ := trodAll_cons r1
  obtain ⟨rfl, rfl, rfl⟩ := trodAll_nil r2
  obtain rfl : args = #[v0, v1, v2] := by cases args; simp_all
  obtain ⟨rfl, rfl⟩ := trodVars_none hV
  obtain ⟨a0, len0, cap0, rfl⟩ := okWide_slice Try.underlying22 (hval 0 22 v0 rfl rfl)
  have k0 := h0
  have lt0 : ∀ x ∈ p0, x.block < W.heap.size := by obtain ⟨m, hm⟩ := k0; exact DataW.trod_lt m _ _ _ hm
  obtain ⟨z0, w0⟩ : ∃ zs, IsRow .u8 W a0 len0 cap0 zs := by
    obtain ⟨fuel, hf⟩ := h0
    rcases open_ints Try.underlying22 Try.underlying5 (by kernel_rfl) hf with ⟨hcs, _⟩ | ⟨x, l, c, zs, hcs, _, hl, hm, hz, _, hcell, hwz⟩
    · simp [Value.cells] at hcs
      obtain ⟨rfl, rfl, rfl⟩ := hcs
      exact ⟨[], .inl ⟨rfl, rfl, rfl, rfl⟩⟩
    · simp [Value.cells] at hcs
      obtain ⟨rfl, rfl, rfl⟩ := hcs
      exact ⟨zs, .inr ⟨_, rfl, hl, hm, by simpa using hz, hcell, hwz⟩⟩
  obtain ⟨a1, rfl, rfl, rfl, w1⟩ := open_int Try.underlying5 (hval 1 5 v1 rfl rfl) h1
  obtain ⟨a2, rfl, rfl, rfl, w2⟩ := open_int Try.underlying5 (hval 2 5 v2 rfl rfl) h2
  clear hA0 hval0
  refine (needed_walk a0 len0 cap0 z0 a1 a2 W w0 w1 w2).mono fun e W' ⟨he, bel⟩ => ?_
  subst he
  exact ⟨_, rfl, _, _, _, [], _, [], hW', trodAll_mk1 (shut_bool Try.underlying4 _), (trodAll_cons_mk (Below.trod lLaid (by kernel_rfl) (of_decide_eq_true (by kernel_rfl)) k0 bel lt0) (trodAll_cons_mk (shut_int Try.underlying5 w1) (trodAll_cons_mk (shut_int Try.underlying5 w2) trodAll_mk0))), rfl, bel.frame _, fun h => by cases h⟩

theorem needed_over : Rows.warnNeededRow.holds Try.pinned (OpenSpec.ofChange Rows.warnNeededSpec) :=
  OpenClaim.holds_of_wide 13 Try.f13 rfl rfl rfl rfl rfl rfl rfl ⟨rfl, rfl, rfl, rfl, rfl⟩ rfl rfl rfl rfl rfl (by kernel_rfl) Try.func13 (by kernel_rfl)
    (of_decide_eq_true (by kernel_rfl)) (by unfold Func.isWrapper; first | (rw [if_pos (by decide +kernel)]; kernel_rfl) | (rw [if_neg (by decide +kernel)]; exact ⟨rfl, rfl⟩))
    (fun os started H enc _ => needed_lifted os started H enc)

theorem needed_holds : Rows.WarnNeededSaid := needed_over
#print axioms needed_holds
end Go.Proofs.Ytgnjhaomlbkgcaa
