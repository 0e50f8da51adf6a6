/- The walk of warn.Row. -/
import Derived.Test.YtgnjhaomlbkgcaaRegion2
import Derived.Test.YtgnjhaomlbkgcaaRegionIn
import Derived.Test.YtgnjhaomlbkgcaaLift
import Derived.Maps.OwnSet
import Derived.DeepKeys4
import Derived.Test.YtgnjhaomlbkgcaaWMadeP
import Derived.Test.YtgnjhaomlbkgcaaWShows
import Derived.Test.YtgnjhaomlbkgcaaWRing
import Derived.Test.YtgnjhaomlbkgcaaWPath
import Derived.Test.YtgnjhaomlbkgcaaWTruth
import Derived.Test.YtgnjhaomlbkgcaaBelS
import Derived.Maps.OwnIn
import Derived.Test.YtgnjhaomlbkgcaaApp2
import Derived.Test.YtgnjhaomlbkgcaaWFew
import Derived.Test.YtgnjhaomlbkgcaaWMade
import Derived.Test.YtgnjhaomlbkgcaaWWork
import Derived.Test.YtgnjhaomlbkgcaaWOpen
import Derived.Test.YtgnjhaomlbkgcaaWRev
import Derived.BigQuiet
import Derived.Test.YtgnjhaomlbkgcaaWAsk
namespace Go.Proofs.Ytgnjhaomlbkgcaa
open Go
set_option linter.unusedVariables false
set_option linter.unusedSimpArgs false

section
variable {P : Program} {ops : Array Oper} {md : Region.Mode} {E : World → World → Prop} {C : World → Prop} {T : Nat → Option (Value → World → Prop)}
theorem wpM_val0 {Q : Act → Facts → Prop} {k : Nat} {a : Act} {F : Facts} {o : Oper} {rest : List Oper} (u : Value) (ht : T k = none) (hw : Region.wanted o (yielded ops a.tmps) = true) (hE : ∀ w, E w w)
    (hr : ∀ w, depC md C o F w → (execOp a.eval o).run P w = .ok (.value u) w) (h : ∀ φ : World → Prop, wpM P md ops E C T Q rest (k + 1) (a.put o.dst u) (F.set k φ)) : wpM P md ops E C T Q (o :: rest) k a F :=
  wpM_val u ht hw hE hr (h _)

/-- The walk of a region, closed up. -/
structure WM (P : Program) (md : Region.Mode) (ops : Array Oper) (E : World → World → Prop) (C : World → Prop) (T : Nat → Option (Value → World → Prop)) (Q : Act → Facts → Prop) (l : List Oper) (k : Nat) (a : Act) (F : Facts) : Prop where
  out : wpM P md ops E C T Q l k a F
theorem wM_nil {Q : Act → Facts → Prop} {k : Nat} {a : Act} {F : Facts} (h : Q a F) : WM P md ops E C T Q [] k a F := ⟨h⟩
theorem wM_val {Q : Act → Facts → Prop} {k : Nat} {a : Act} {F : Facts} {o : Oper} {rest : List Oper} (u : Value) (ht : T k = none) (hw : Region.wanted o (yielded ops a.tmps) = true) (hE : ∀ w, E w w)
    (hr : ∀ w, depC md C o F w → (execOp a.eval o).run P w = .ok (.value u) w) (h : ∀ φ : World → Prop, WM P md ops E C T Q rest (k + 1) (a.put o.dst u) (F.set k φ)) : WM P md ops E C T Q (o :: rest) k a F :=
  ⟨wpM_val u ht hw hE hr (h _).out⟩
theorem wM_skip {Q : Act → Facts → Prop} {k : Nat} {a : Act} {F : Facts} {o : Oper} {rest : List Oper} (hw : Region.wanted o (yielded ops a.tmps) = false)
    (h : WM P md ops E C T Q rest (k + 1) (a.put o.dst undef) F) : WM P md ops E C T Q (o :: rest) k a F := ⟨wpM_skip hw h.out⟩
theorem wM_op {Q : Act → Facts → Prop} {k : Nat} {a : Act} {F : Facts} {o : Oper} {rest : List Oper} (R : Value → World → Prop) (ht : T k = some R) (hw : Region.wanted o (yielded ops a.tmps) = true)
    (ho : opens P E o a (depC md C o F) R)
    (h : ∀ v, (∃ w, C w ∧ (∀ k, F k w) ∧ R v w) → WM P md ops E C T Q rest (k + 1) (a.put o.dst v) (F.set k (fun w => depC md C o F w ∧ R v w))) : WM P md ops E C T Q (o :: rest) k a F :=
  ⟨wpM_op R ht hw ho fun v hv => (h v hv).out⟩
theorem wp_region_shut {id : Nat} {Q : Exit → Act → World → Prop} {a : Act} {w : World} {l : List Oper} (E : World → World → Prop) (C : World → Prop) (T : Nat → Option (Value → World → Prop)) (hm : P.follows .mixedOrders = true) (hB : lexAllB .any l.toArray = true)
    (hC : Up E C) (hT : ∀ i R, T i = some R → ∀ v, Up E (R v)) (hw : C w.drew)
    (h : WM P .any l.toArray E C T (fun a' F' => ∀ w', C w' → (∀ k, F' k w') → Q .normal a' w') l 0 a noFacts) : (Code.region id l.toArray true).wp P Q a w := wp_region_opens E C T hm hB hC hT hw h.out
theorem wp_region_shut_tail {id : Nat} {Q : Exit → Act → World → Prop} {a : Act} {w : World} {l : List Oper} (E : World → World → Prop) (C : World → Prop) (T : Nat → Option (Value → World → Prop)) (n : Nat) (hm : P.follows .mixedOrders = true) (hB : Region.lexTailB .any l.toArray n = true)
    (hC : Up E C) (hT : ∀ i R, T i = some R → ∀ v, Up E (R v)) (hw : C w.drew)
    (h : WM P .any l.toArray E C T (fun a' F' => ∀ w', C w' → (∀ k, F' k w') → wpList P l.toArray Q (l.drop n) a' w') (l.take n) 0 a noFacts) : (Code.region id l.toArray true).wp P Q a w := wp_region_opens_tail E C T n hm hB hC hT hw h.out
theorem wpIn_region_shut {l₀ n : Nat} {id : Nat} {Q : Exit → Act → World → Prop} {a : Act} {w : World} {l : List Oper} (E : World → World → Prop) (C : World → Prop) (T : Nat → Option (Value → World → Prop)) (hm : P.follows .mixedOrders = true) (hB : (noDefer l.toArray && lexAllB .any l.toArray) = true)
    (hC : Up E C) (hT : ∀ i R, T i = some R → ∀ v, Up E (R v)) (hw : C w.drew)
    (h : WM P .any l.toArray E C T (fun a' F' => ∀ w', C w' → (∀ k, F' k w') → Q .normal a' w') l 0 a noFacts) : (Code.region id l.toArray true).wpIn (Fence.wide.inRound l₀) n P Q a w := wpIn_region_opens E C T hm hB hC hT hw h.out
theorem wpIn_region_shut_tail {l₀ n : Nat} {id : Nat} {Q : Exit → Act → World → Prop} {a : Act} {w : World} {l : List Oper} (E : World → World → Prop) (C : World → Prop) (T : Nat → Option (Value → World → Prop)) (m : Nat) (hm : P.follows .mixedOrders = true) (hB : (noDefer l.toArray && Region.lexTailB .any l.toArray m) = true)
    (hC : Up E C) (hT : ∀ i R, T i = some R → ∀ v, Up E (R v)) (hw : C w.drew)
    (h : WM P .any l.toArray E C T (fun a' F' => ∀ w', C w' → (∀ k, F' k w') → wpListIn (Fence.wide.inRound l₀) n P l.toArray Q (l.drop m) a' w') (l.take m) 0 a noFacts) : (Code.region id l.toArray true).wpIn (Fence.wide.inRound l₀) n P Q a w := wpIn_region_opens_tail E C T m hm hB hC hT hw h.out
end
end Go.Proofs.Ytgnjhaomlbkgcaa

namespace Go.Proofs.Ytgnjhaomlbkgcaa
open Go Go.RowKit Go.Shelf Go.Maps
set_option linter.unusedVariables false
set_option linter.unusedSimpArgs false

set_option maxRecDepth 100000
theorem arcRow : (176 : TypeId) < Try.prog.types.size := of_decide_eq_true (by kernel_rfl)
theorem arcWide : (match Try.prog.underlying 176 with | some (.array _ _) | some (.struct _) => true | _ => false) = true := by rw [Try.underlying176]
theorem keyArc : Keyed Try.prog 176 := Keyed.of_law (deep_law_laid lLaid (m := 2) (by omega) arcRow (by kernel_rfl) arcWide)
theorem arcTiled : Try.prog.tiled 2 176 = true := tiled_of_laidOut lLaid 2 _ (by kernel_rfl) (by kernel_rfl)
def arcL (a x : Int) : Lit := .string (keyBytes [.int .i64 a, .int .i64 x])
theorem arcType : Try.prog.keyType 176 = true := by kernel_rfl
theorem cellsArc : Try.prog.cellsOf 176 = 2 := by kernel_rfl
theorem cellsInt : Try.prog.cellsOf 3 = 1 := by kernel_rfl
theorem arcSize : ∃ m, Try.prog.types.size = m + 1 := ⟨Try.prog.types.size - 1, (Nat.succ_pred_eq_of_pos (Nat.lt_of_le_of_lt (Nat.zero_le _) arcRow)).symm⟩
theorem keyOf_arc {a x : Int} (wa : (Lit.int .i64 a).wf = true) (wx : (Lit.int .i64 x).wf = true) : keyOf Try.prog 176 (.agg #[.int .i64 a, .int .i64 x]) = some (arcL a x) := by
  obtain ⟨m, hm⟩ := arcSize
  unfold keyOf arcL
  simp only [Try.underlying176]
  rw [if_pos (by simp [arcType, Value.formed, Try.underlying176, cellsArc]), hm]
  unfold Program.keyLits
  simp only [Try.underlying176, Value.cells]
  rw [if_pos ⟨by rw [cellsArc]; rfl, by decide +kernel⟩]
  simp [cellsInt, Program.keyLits, Try.underlying3, wa, wx]
theorem arcL_inj {a x y : Int} (wa : (Lit.int .i64 a).wf = true) (wx : (Lit.int .i64 x).wf = true) (wy : (Lit.int .i64 y).wf = true) (h : arcL a x = arcL a y) : x = y := by
  have h1 := keyOf_arc wa wx
  have h2 := keyOf_arc wa wy
  rw [← h] at h2
  have := keyOf_inj_deep arcTiled arcWide h1 h2
  simpa using this
theorem arcL_lit (a x : Int) : WideAt.IsKeyLit (arcL a x) := trivial
end Go.Proofs.Ytgnjhaomlbkgcaa

namespace Go.Proofs.Ytgnjhaomlbkgcaa
open Go Go.RowKit
set_option linter.unusedVariables false
set_option linter.unusedSimpArgs false

/-- A gap as the statement keeps it: 1 << 30 if there is none. -/
def gst (c : Cs) (a b : Nat) : Int := if gapsM allT c a b = far then 1073741824 else gapsM allT c a b

theorem gap_near {c : Cs} (h0 : checkC c = 0) (hf : Fine c.all) {a b : Nat} (ha : a < 8) (hb : b < 8) (hn : gapsM allT c a b ≠ far) : -416000 ≤ gapsM allT c a b ∧ gapsM allT c a b ≤ 7000 := by
  rw [← belL_all] at hf
  obtain ⟨l, hl, _⟩ := gap_row h0 ha hb hn
  obtain ⟨m, hm, h7, _⟩ := row_short (belL_ok h0) hf ha l.length (Nat.le_refl _) hl
  have h1 := gap_le h0 hf ha hb hm
  have h2 := sumW_le (belL_ok h0) hm.mem
  have h3 := (gapsM_low (tf := allT) h0 a b ha hb).1
  omega
theorem gst_le {c : Cs} (h0 : checkC c = 0) (hf : Fine c.all) {a b : Nat} (ha : a < 8) (hb : b < 8) : -416000 ≤ gst c a b ∧ (gst c a b ≤ 7000 ∨ gst c a b = 1073741824) := by
  unfold gst
  by_cases h : gapsM allT c a b = far
  · rw [if_pos h]; omega
  · rw [if_neg h]; have := gap_near h0 hf ha hb h; omega
theorem gst_lt {c : Cs} (h0 : checkC c = 0) (hf : Fine c.all) {a b : Nat} (ha : a < 8) (hb : b < 8) : gst c a b < 1073741824 ↔ gapsM allT c a b ≠ far := by
  unfold gst
  by_cases h : gapsM allT c a b = far
  · rw [if_pos h]; simp [h]
  · rw [if_neg h]; have := gap_near h0 hf ha hb h; simp [h]; omega
theorem gst_is {c : Cs} {a b : Nat} (h : gapsM allT c a b ≠ far) : gst c a b = gapsM allT c a b := by unfold gst; rw [if_neg h]

structure GapsOK (c : Cs) (real : List Int) : Prop where
  one : ∀ a b : Nat, (a : Int) < c.ev → (b : Int) < c.ev → (gapOf c a b = (gst c a b, 0) ∧ gst c a b < 1073741824 ∧ real.getD b 0 - real.getD a 0 ≤ gst c a b ∧ (a = b → gst c a b = 0)) ∨ (gapOf c a b = (0, 6) ∧ gst c a b = 1073741824 ∧ a ≠ b)
  size : ∀ a b : Nat, (a : Int) < c.ev → (b : Int) < c.ev → -416000 ≤ gst c a b ∧ gst c a b ≤ 1073741824
  over : ∀ a b k : Nat, (a : Int) < c.ev → (b : Int) < c.ev → (k : Int) < c.ev → gst c a k < 1073741824 → gst c k b < 1073741824 → gst c a b ≤ gst c a k + gst c k b
  ask : ∀ a b : Nat, (a : Int) < c.ev → (b : Int) < c.ev → askOf c a b = if gst c a b < 1073741824 ∧ gst c b a < 1073741824 then ((-gst c b a, gst c a b), 0) else ((0, 0), 6)
  rows : ∀ (a : Nat) (at_ s : Int) (row : List Int), (a : Int) < c.ev → row.length ≤ c.all.length → (∀ i ∈ row, 0 ≤ i ∧ i < (c.all.length : Int)) → alongC c.all a 0 row = some (at_, s) →
    (0 ≤ at_ ∧ at_ < c.ev) ∧ showsOf c a at_ row = (s, 0) ∧ gst c a at_.toNat ≤ s ∧ gst c a at_.toNat < 1073741824

theorem along_row {L : List Bd} (hL : ∀ b ∈ L, 0 ≤ b.f ∧ 0 ≤ b.t) : ∀ {row : List Int} {a : Nat} {s e n : Int}, alongC L a s row = some (e, n) → ∃ l, Row L a e.toNat l ∧ n = s + sumW l ∧ 0 ≤ e ∧ (l = [] → e = a) ∧ (∀ x : Bd, l.getLast? = some x → e = x.t) := by
  intro row
  induction row with
  | nil =>
    intro a s e n h
    simp only [alongC, Option.some.injEq, Prod.mk.injEq] at h
    obtain ⟨rfl, rfl⟩ := h
    exact ⟨[], by rw [Int.toNat_natCast]; exact Row.nil _ _, by simp [sumW], by omega, fun _ => rfl, fun x h => by simp at h⟩
  | cons i row ih =>
    intro a s e n h
    unfold alongC at h
    rcases hx : L[i.toNat]? with _ | x
    · rw [hx] at h; cases h
    · rw [hx] at h
      simp only at h
      by_cases hf : x.f = a
      · rw [if_pos hf] at h
        have hm := List.mem_of_getElem? hx
        obtain ⟨h1, h2⟩ := hL x hm
        obtain ⟨tn, ht⟩ : ∃ tn : Nat, x.t = tn := ⟨x.t.toNat, by omega⟩
        rw [ht] at h
        obtain ⟨l, hl, hs, he, h3, h4⟩ := ih h
        have h5 := Row.one hm
        rw [hf, ht, Int.toNat_natCast, Int.toNat_natCast] at h5
        refine ⟨[x] ++ l, h5.app hl, by rw [sumW_app]; simp only [sumW]; omega, he, fun h => by simp at h, fun y hy => ?_⟩
        cases l with
        | nil => simp at hy; subst hy; rw [ht]; exact h3 rfl
        | cons z l => exact h4 y (by simpa using hy)
      · rw [if_neg hf] at h; cases h

theorem gaps_ok {evm bm cm : Nat} {c : Cs} {real : List Int} (h : MadeOK evm bm cm 0 c real) (he : evm ≤ 8) (hb : bm ≤ 20) (hc : cm ≤ 8) : GapsOK c real := by
  have h0 := h.check (Int.le_refl _) (by omega) he hb hc
  have ht := h.truth
  have hf := ht.fine
  have hev := checkC_ev h0
  have hfb : Fine (belL allT c) := by rw [belL_all]; exact hf
  have htb : TruthOf (belL allT c) (fun k => real.getD k 0) := by rw [belL_all]; exact ht
  have hself : ∀ a : Nat, a < 8 → gapsM allT c a a = 0 := fun a ha => by
    have h1 := gap_le h0 hfb (a := a) (b := a) ha ha (Row.nil _ _)
    simp only [sumW] at h1
    have h2 : gapsM allT c a a ≠ far := by unfold far; omega
    have h3 := htb.gap h0 ha ha h2
    omega
  refine ⟨fun a b ha hb => ?_, fun a b ha hb => ?_, fun a b k ha hb hk h1 h2 => ?_, fun a b ha hb => ?_, fun a at_ s row ha hr hi hal => ?_⟩
  · rw [gap_is h0 hf ha hb]
    by_cases hn : gapsM allT c a b = far
    · rw [if_pos hn]
      refine .inr ⟨rfl, by unfold gst; rw [if_pos hn], fun e => ?_⟩
      subst e
      rw [hself a (by omega)] at hn
      unfold far at hn; omega
    · rw [if_neg hn]
      have h1 := htb.gap h0 (by omega) (by omega) hn
      refine .inl ⟨by rw [gst_is hn], (gst_lt h0 hf (by omega) (by omega)).2 hn, by rw [gst_is hn]; exact h1, fun e => ?_⟩
      subst e
      rw [gst_is hn]; exact hself a (by omega)
  · have := gst_le h0 hf (a := a) (b := b) (by omega) (by omega); omega
  · have n1 := (gst_lt h0 hf (by omega) (by omega)).1 h1
    have n2 := (gst_lt h0 hf (by omega) (by omega)).1 h2
    obtain ⟨l, hl, hs⟩ := gap_row h0 (by omega) (by omega) n1
    obtain ⟨m, hm, hs2⟩ := gap_row h0 (by omega) (by omega) n2
    have h3 := gap_le h0 hfb (a := a) (b := b) (by omega) (by omega) (hl.app hm)
    have n3 := gap_lt_far h0 hfb (a := a) (b := b) (by omega) (by omega) (hl.app hm)
    rw [sumW_app] at h3
    rw [gst_is n1, gst_is n2, gst_is n3]
    omega
  · unfold askOf
    rw [if_pos (asked_two h0 hf ha hb)]
    have e1 := gst_lt h0 hf (a := a) (b := b) (by omega) (by omega)
    have e2 := gst_lt h0 hf (a := b) (b := a) (by omega) (by omega)
    simp only [Int.toNat_natCast]
    by_cases n1 : gapsM allT c a b = far
    · rw [if_pos (.inl n1), if_neg (fun q => absurd n1 (e1.1 q.1))]
    · by_cases n2 : gapsM allT c b a = far
      · rw [if_pos (.inr n2), if_neg (fun q => absurd n2 (e2.1 q.2))]
      · rw [if_neg (fun q => q.elim n1 n2), if_pos ⟨e1.2 n1, e2.2 n2⟩, gst_is n1, gst_is n2]
  · have hall := fun b hb => checkC_bd h0 b hb
    obtain ⟨l, hl, hs, he0, hnil, hlast⟩ := along_row (fun b hb => ⟨(hall b hb).1.1, (hall b hb).2.1.1⟩) hal
    have hevb := (checkC_ok h0).2.2.1
    have hlt : at_ < c.ev := by
      rcases hl' : l.getLast? with _ | x
      · have : l = [] := by simpa using hl'
        have := hnil this
        omega
      · have hx := hlast x hl'
        have hxm := hl.mem x (List.mem_of_getLast? hl')
        have := evOK_get hevb hxm
        omega
    have hlb : Row (belL allT c) a at_.toNat l := by rw [belL_all]; exact hl
    have h1 := gap_le h0 hfb (a := a) (b := at_.toNat) (by omega) (by omega) hlb
    have h2 := gap_lt_far h0 hfb (a := a) (b := at_.toNat) (by omega) (by omega) hlb
    refine ⟨⟨he0, hlt⟩, ?_, by rw [gst_is h2]; omega, (gst_lt h0 hf (by omega) (by omega)).2 h2⟩
    unfold showsOf
    rw [if_neg (by simpa using h0), if_neg (by simp only [Bool.and_eq_false_iff, inB_not]; omega), if_neg (by omega), if_neg (by
      rw [Bool.not_eq_false, List.all_eq_true]
      intro i hq
      have := hi i hq
      exact inB_iff.2 (by omega)), hal]
    simp
end Go.Proofs.Ytgnjhaomlbkgcaa

namespace Go.Proofs.Ytgnjhaomlbkgcaa
open Go Go.RowKit
set_option linter.unusedVariables false
set_option linter.unusedSimpArgs false

/-- What is known of the sums behind a number of steps; T: the step of each event's last change; P: that of each bound's last look. -/
structure RG (L : List Bd) (s : RS) (T P : Nat → Nat) (t : Nat) : Prop where
  tle : ∀ x, x < 8 → T x ≤ t
  ple : ∀ j, j < L.length → P j ≤ t
  seen : ∀ j b, L[j]? = some b → 0 < P j → T b.f.toNat ≤ P j → s.sm b.t.toNat ≤ s.sm b.f.toNat + b.m
  led : ∀ x, x < 8 → 0 < T x → ∃ b, L[s.by_ x]? = some b ∧ b.t.toNat = x ∧ s.sm b.f.toNat + b.m ≤ s.sm x ∧ (T x < T b.f.toNat → s.sm b.f.toNat + b.m < s.sm x) ∧ (L.length < T x → T x < T b.f.toNat + L.length)
  inj : ∀ x y, x < 8 → y < 8 → 0 < T x → T x = T y → x = y
  last : s.last < 8 ∧ ∀ x, x < 8 → T x ≤ T s.last
theorem RG.start (L : List Bd) : RG L RS0 (fun _ => 0) (fun _ => 0) 0 :=
  ⟨fun _ _ => Nat.le_refl _, fun _ _ => Nat.le_refl _, fun _ _ _ h _ => by omega, fun _ _ h => by omega, fun _ _ _ _ h _ => by omega, by simp [RS0], fun _ _ => Nat.le_refl _⟩
/-- One bound is looked at. -/
theorem RG.step {L : List Bd} (hL : ∀ b ∈ L, b.ok) (hd : ∀ b ∈ L, b.f ≠ b.t) {s : RS} {T P : Nat → Nat} {t i : Nat} {b : Bd} (h : RG L s T P t) (hi : L[i]? = some b) (hP : (P i = 0 ∧ t < L.length) ∨ (0 < P i ∧ P i + L.length = t + 1)) :
    ∃ T', RG L (rstep s (i, b)) T' (fun j => if j = i then t + 1 else P j) (t + 1) := by
  have hb := List.mem_of_getElem? hi
  obtain ⟨⟨f0, f8⟩, ⟨t0, t8⟩, _⟩ := hL b hb
  have hne : b.f.toNat ≠ b.t.toNat := fun e => hd b hb (by omega)
  have hil : i < L.length := (List.getElem?_eq_some_iff.1 hi).1
  by_cases hlt : s.sm b.f.toNat + b.m < s.sm b.t.toNat
  · refine ⟨fun x => if x = b.t.toNat then t + 1 else T x, ?_⟩
    have hr : rstep s (i, b) = ⟨upd1 s.sm b.t.toNat (s.sm b.f.toNat + b.m), upd1 s.by_ b.t.toNat i, b.t.toNat⟩ := by unfold rstep; rw [if_pos hlt]
    rw [hr]
    have hTf : 0 < P i → P i < T b.f.toNat := fun h0 => by
      rcases Nat.lt_or_ge (P i) (T b.f.toNat) with h1 | h1
      · exact h1
      · have := h.seen i b hi h0 h1; omega
    refine ⟨fun x hx => ?_, fun j hj => ?_, fun j c hj h0 h1 => ?_, fun x hx h0 => ?_, fun x y hx hy h0 he => ?_, by show b.t.toNat < 8; omega, fun x hx => ?_⟩
    · have := h.tle x hx; (try dsimp only); split <;> first | exact Nat.le_refl _ | omega
    · have := h.ple j hj; (try dsimp only); split <;> first | exact Nat.le_refl _ | omega
    · obtain ⟨⟨cf0, cf8⟩, ⟨ct0, ct8⟩, _⟩ := hL c (List.mem_of_getElem? hj)
      have hjl : j < L.length := (List.getElem?_eq_some_iff.1 hj).1
      have hpj := h.ple j hjl
      simp only [upd1] at *
      by_cases hji : j = i
      · subst hji
        rw [hi] at hj; cases hj
        rw [if_pos rfl, if_neg hne]
        exact Int.le_refl _
      · rw [if_neg hji] at h0 h1
        by_cases hcf : c.f.toNat = b.t.toNat
        · rw [if_pos hcf] at h1; omega
        · rw [if_neg hcf] at h1 ⊢
          have h2 := h.seen j c hj h0 h1
          split
          · rename_i e; rw [e] at h2; omega
          · exact h2
    · simp only [upd1] at *
      by_cases hxt : x = b.t.toNat
      · subst hxt
        refine ⟨b, by rw [if_pos rfl]; exact hi, rfl, ?_, ?_, ?_⟩
        · rw [if_neg hne, if_pos rfl]; exact Int.le_refl _
        · rw [if_pos rfl, if_neg hne]; intro hh; have := h.tle b.f.toNat (by omega); omega
        · rw [if_pos rfl, if_neg hne]
          intro hh
          rcases hP with ⟨_, h4⟩ | ⟨h3, h4⟩
          · omega
          · have := hTf h3; omega
      · rw [if_neg hxt] at h0
        obtain ⟨c, c1, c2, c3, c4, c5⟩ := h.led x hx h0
        obtain ⟨⟨cf0, cf8⟩, _⟩ := hL c (List.mem_of_getElem? c1)
        have hT := h.tle x hx
        refine ⟨c, by rw [if_neg hxt]; exact c1, c2, ?_, ?_, ?_⟩
        · rw [if_neg hxt]
          split
          · rename_i e; rw [e] at c3; omega
          · exact c3
        · rw [if_neg hxt, if_neg hxt]
          by_cases e : c.f.toNat = b.t.toNat
          · rw [if_pos e, if_pos e]; intro _; rw [e] at c3; omega
          · rw [if_neg e, if_neg e]; exact c4
        · rw [if_neg hxt]
          intro hh
          have h5 := c5 hh
          split
          · omega
          · exact h5
    · have hx1 := h.tle x hx
      have hy1 := h.tle y hy
      try dsimp only at h0 he
      by_cases hx2 : x = b.t.toNat
      · by_cases hy2 : y = b.t.toNat
        · omega
        · rw [if_pos hx2, if_neg hy2] at he; omega
      · by_cases hy2 : y = b.t.toNat
        · rw [if_neg hx2, if_pos hy2] at he; omega
        · rw [if_neg hx2, if_neg hy2] at he
          rw [if_neg hx2] at h0
          exact h.inj x y hx hy h0 he
    · have := h.tle x hx
      try dsimp only
      rw [if_pos rfl]
      split <;> first | exact Nat.le_refl _ | omega
  · refine ⟨T, ?_⟩
    have hr : rstep s (i, b) = s := by unfold rstep; rw [if_neg hlt]
    rw [hr]
    refine ⟨fun x hx => Nat.le_succ_of_le (h.tle x hx), fun j hj => ?_, fun j c hj h0 h1 => ?_, h.led, h.inj, h.last⟩
    · have := h.ple j hj; (try dsimp only); split <;> first | exact Nat.le_refl _ | omega
    · try dsimp only at h0 h1
      by_cases hji : j = i
      · subst hji
        rw [hi] at hj; cases hj
        omega
      · rw [if_neg hji] at h0 h1
        exact h.seen j c hj h0 h1
/-- The steps at which the bounds were looked at last: in round k, behind so many bounds. -/
def PAt (n k i : Nat) : Nat → Nat := fun j => if j < i then k * n + j + 1 else if k = 0 then 0 else (k - 1) * n + j + 1
theorem RG.congrP {L : List Bd} {s : RS} {T P P' : Nat → Nat} {t : Nat} (h : RG L s T P t) (he : ∀ j, j < L.length → P j = P' j) : RG L s T P' t :=
  ⟨h.tle, fun j hj => by rw [← he j hj]; exact h.ple j hj, fun j b hj h0 h1 => by
    have hl := (List.getElem?_eq_some_iff.1 hj).1
    rw [← he j hl] at h0 h1
    exact h.seen j b hj h0 h1, h.led, h.inj, h.last⟩
theorem RG.round {L : List Bd} (hL : ∀ b ∈ L, b.ok) (hd : ∀ b ∈ L, b.f ≠ b.t) (k : Nat) : ∀ (m i : Nat) {s : RS} {T : Nat → Nat}, i + m = L.length → RG L s T (PAt L.length k i) (k * L.length + i) →
    ∃ T', RG L (rpass s ((numFrom 0 L).drop i)) T' (PAt L.length k L.length) (k * L.length + L.length) := by
  intro m
  induction m with
  | zero =>
    intro i s T hi h
    obtain rfl : i = L.length := by omega
    rw [numFrom_dropEnd L 0 _ (Nat.le_refl _)]
    exact ⟨T, h⟩
  | succ m ih =>
    intro i s T hi h
    obtain ⟨b, hb⟩ := get_of_lt L i (by omega)
    rw [numFrom_get L 0 i b hb, Nat.zero_add]
    show ∃ T', RG L (rpass (rstep s (i, b)) _) T' _ _
    have hP : (PAt L.length k i i = 0 ∧ k * L.length + i < L.length) ∨ (0 < PAt L.length k i i ∧ PAt L.length k i i + L.length = k * L.length + i + 1) := by
      unfold PAt
      rw [if_neg (by omega)]
      cases k with
      | zero => left; simp; omega
      | succ k =>
        right
        rw [if_neg (by omega), Nat.add_sub_cancel, Nat.succ_mul]
        omega
    obtain ⟨T', h'⟩ := h.step hL hd hb hP
    refine ih (i + 1) (by omega) (T := T') (h'.congrP fun j hj => ?_)
    unfold PAt
    by_cases e : j = i
    · rw [if_pos e, if_pos (by omega), e]
    · rw [if_neg e]
      by_cases e2 : j < i
      · rw [if_pos e2, if_pos (by omega)]
      · rw [if_neg e2]
        exact (if_neg (show ¬ j < i + 1 by omega)).symm
theorem RG.rounds {L : List Bd} (hL : ∀ b ∈ L, b.ok) (hd : ∀ b ∈ L, b.f ≠ b.t) : ∀ (n k : Nat) {s : RS} {T : Nat → Nat}, RG L s T (PAt L.length k 0) (k * L.length) →
    ∃ T', RG L (rrun (numFrom 0 L) n s) T' (PAt L.length (k + n) 0) ((k + n) * L.length) := by
  intro n
  induction n with
  | zero => intro k s T h; exact ⟨T, h⟩
  | succ n ih =>
    intro k s T h
    obtain ⟨T', h'⟩ := RG.round hL hd k L.length 0 (by omega) (by simpa using h)
    rw [List.drop_zero] at h'
    rw [show k + (n + 1) = (k + 1) + n by omega]
    refine ih (k + 1) (T := T') ?_
    rw [Nat.succ_mul]
    refine h'.congrP fun j hj => ?_
    unfold PAt
    rw [if_pos hj, if_neg (by omega), if_neg (by omega), Nat.add_sub_cancel]

/-! ### Back from the event that was changed last -/
section
variable {L : List Bd} {s : RS} {T P : Nat → Nat} {t : Nat}
theorem RG.pred (hL : ∀ b ∈ L, b.ok) (h : RG L s T P t) {x : Nat} (hx : x < 8) (h0 : 0 < T x) : predR L s x < 8 ∧ ∃ b, L[s.by_ x]? = some b ∧ b.t.toNat = x ∧ b.f.toNat = predR L s x ∧ s.sm (predR L s x) + b.m ≤ s.sm x ∧ (T x < T (predR L s x) → s.sm (predR L s x) + b.m < s.sm x) ∧ (L.length < T x → T x < T (predR L s x) + L.length) := by
  obtain ⟨b, h1, h2, h3, h4, h5⟩ := h.led x hx h0
  have hp : predR L s x = b.f.toNat := by unfold predR; rw [h1]; rfl
  obtain ⟨⟨f0, f8⟩, _⟩ := hL b (List.mem_of_getElem? h1)
  rw [hp]
  exact ⟨by omega, b, h1, h2, rfl, h3, h4, h5⟩
theorem iterN_succ (f : Nat → Nat) (k x : Nat) : iterN f (k + 1) x = f (iterN f k x) := by
  rw [iterN_add]; rfl
/-- Eight steps back from an event that was changed in the ninth round all have been changed. -/
theorem RG.back (hL : ∀ b ∈ L, b.ok) (h : RG L s T P t) {x : Nat} (hx : x < 8) (h8 : 8 * L.length < T x) : ∀ k, k ≤ 8 → iterN (predR L s) k x < 8 ∧ (8 - k) * L.length < T (iterN (predR L s) k x) := by
  intro k
  induction k with
  | zero => exact fun _ => ⟨hx, h8⟩
  | succ k ih =>
    intro hk
    obtain ⟨h1, h2⟩ := ih (by omega)
    rw [iterN_succ]
    generalize iterN (predR L s) k x = y at *
    obtain ⟨p1, b, _, _, _, _, _, p2⟩ := h.pred hL h1 (by omega)
    refine ⟨p1, ?_⟩
    have e : 8 - k = (8 - (k + 1)) + 1 := by omega
    rw [e, Nat.succ_mul] at h2
    have := p2 (by omega)
    omega
theorem iterN_back {f : Nat → Nat} {x i j : Nat} (hij : i < j) (hj : j ≤ 8) (he : iterN f i x = iterN f j x) : ∀ n m, m ≤ n → ∃ q, q ≤ 8 ∧ iterN f m x = iterN f q x := by
  intro n
  induction n with
  | zero => intro m hm; exact ⟨m, by omega, rfl⟩
  | succ n ih =>
    intro m hm
    by_cases h8 : m ≤ 8
    · exact ⟨m, h8, rfl⟩
    · have e1 : iterN f m x = iterN f (m - j) (iterN f j x) := by rw [← iterN_add]; congr 1; omega
      have e2 : iterN f (i + (m - j)) x = iterN f (m - j) (iterN f i x) := iterN_add _ _ _ _
      obtain ⟨q, hq, e3⟩ := ih (i + (m - j)) (by omega)
      exact ⟨q, hq, by rw [e1, ← he, ← e2, e3]⟩
/-- On and on back, all have been changed. -/
theorem RG.all (hL : ∀ b ∈ L, b.ok) (h : RG L s T P t) {x : Nat} (hx : x < 8) (h8 : 8 * L.length < T x) (m : Nat) : iterN (predR L s) m x < 8 ∧ 0 < T (iterN (predR L s) m x) := by
  obtain ⟨i, j, hij, hj, he⟩ := pigeon (fun i => iterN (predR L s) i x) 8 (fun i hi => (h.back hL hx h8 i hi).1)
  obtain ⟨q, hq, e⟩ := iterN_back hij hj he m m (Nat.le_refl _)
  obtain ⟨h1, h2⟩ := h.back hL hx h8 q hq
  rw [e]
  exact ⟨h1, by omega⟩
end

/-- The first time that it comes back. -/
theorem least_back {f : Nat → Nat} {x : Nat} : ∀ n k, k ≤ n → 1 ≤ k → iterN f k x = x → ∃ j, 1 ≤ j ∧ j ≤ k ∧ iterN f j x = x ∧ ∀ i, 1 ≤ i → i < j → iterN f i x ≠ x := by
  intro n
  induction n with
  | zero => intro k h1 h2; omega
  | succ n ih =>
    intro k hk h1 he
    by_cases hx : ∃ i, 1 ≤ i ∧ i < k ∧ iterN f i x = x
    · obtain ⟨i, i1, i2, i3⟩ := hx
      obtain ⟨j, j1, j2, j3, j4⟩ := ih i (by omega) i1 i3
      exact ⟨j, j1, by omega, j3, j4⟩
    · exact ⟨k, h1, Nat.le_refl _, he, fun i i1 i2 e => hx ⟨i, i1, i2, e⟩⟩
theorem path_is {f : Nat → Nat} {x : Nat} {j : Nat} (hj : iterN f j x = x) (hm : ∀ i, 1 ≤ i → i < j → iterN f i x ≠ x) : ∀ (m k : Nat), 1 ≤ k → k + m = j → ∀ n, m ≤ n → pathR f x n (iterN f k x) = (List.range m).map fun i => iterN f (k + i) x := by
  intro m
  induction m with
  | zero =>
    intro k h1 h2 n _
    rw [show k = j by omega, hj]
    cases n with
    | zero => rfl
    | succ n => unfold pathR; rw [if_pos rfl]; rfl
  | succ m ih =>
    intro k h1 h2 n hn
    cases n with
    | zero => omega
    | succ n =>
      unfold pathR
      rw [if_neg (hm k h1 (by omega)), ← iterN_succ f k x, ih (k + 1) (by omega) (by omega) n (by omega), List.range_succ_eq_map]
      simp only [List.map_cons, Nat.add_zero, List.map_map]
      congr 1
      refine List.map_congr_left fun i _ => ?_
      show iterN f (k + 1 + i) x = iterN f (k + (i + 1)) x
      congr 1; omega

/-- The sum of the bounds by which u is reached. -/
def sumBy (L : List Bd) (s : RS) (u : Nat → Nat) : Nat → Int
  | 0 => 0
  | j + 1 => sumBy L s u j + ((L[s.by_ (u j)]?).map (·.m)).getD 0
theorem along_back {L : List Bd} {s : RS} {u : Nat → Nat} {k : Nat} (hu : ∀ j, j < k → ∃ b, L[s.by_ (u j)]? = some b ∧ b.t = (u j : Int) ∧ b.f = (u (j + 1) : Int)) : ∀ j, j ≤ k → ∀ S : Int, alongC L (u j) S (((List.range j).map fun i => (s.by_ (u i) : Int)).reverse) = some ((u 0 : Int), S + sumBy L s u j) := by
  intro j
  induction j with
  | zero => intro _ S; simp [alongC, sumBy]
  | succ j ih =>
    intro hj S
    obtain ⟨b, h1, h2, h3⟩ := hu j (by omega)
    rw [List.range_succ, List.map_append, List.reverse_append]
    simp only [List.map_cons, List.map_nil, List.reverse_cons, List.reverse_nil, List.nil_append, List.cons_append]
    unfold alongC
    simp only [Int.toNat_natCast, h1]
    rw [if_pos h3, h2, ih (by omega)]
    simp only [sumBy, h1, Option.map_some, Option.getD_some]
    congr 2
    omega

/-- What a ring is. -/
structure RingOK (L : List Bd) (ring : List Int) : Prop where
  two : 2 ≤ ring.length
  len : ring.length ≤ 8
  in_ : ∀ i ∈ ring, 0 ≤ i ∧ i < (L.length : Int)
  nodup : ring.Nodup
  round : ∃ (i : Nat) (b : Bd) (n : Int), ring[0]? = some (i : Int) ∧ L[i]? = some b ∧ n < 0 ∧ alongC L b.f 0 ring = some (b.f, n)

theorem ring_ok {c : Cs} (h0 : checkC c = 0) (hc : clashM (gapsM allT c) = true) : RingOK c.all (ringL c.all) := by
  have hL := checkC_bd h0
  have hd : ∀ b ∈ c.all, b.f ≠ b.t := fun b hb => by
    obtain ⟨_, _, _, _, h5⟩ := checkC_ok h0
    simp only [diffOK, List.all_eq_true] at h5
    simpa using h5 b hb
  have hpos := clash_pos hc
  obtain ⟨T, hG⟩ := RG.rounds hL hd 9 0 (s := RS0) (T := fun _ => 0) (by simpa [PAt] using (RG.start c.all).congrP (P' := PAt c.all.length 0 0) (fun j _ => by simp [PAt]))
  rw [Nat.zero_add] at hG
  have hend : rrun (numFrom 0 c.all) 9 RS0 = endR c.all := rfl
  rw [hend] at hG
  have hlast : 8 * c.all.length < T (endR c.all).last := by
    rcases Nat.lt_or_ge (8 * c.all.length) (T (endR c.all).last) with h | h
    · exact h
    · exfalso
      have ht : TruthOf c.all (fun x => (endR c.all).sm x) := fun b hb => by
        obtain ⟨j, hj, hjb⟩ := List.getElem_of_mem hb
        have hjb' : c.all[j]? = some b := by rw [List.getElem?_eq_getElem hj, hjb]
        obtain ⟨⟨f0, f8⟩, _⟩ := hL b hb
        have h1 := hG.last.2 b.f.toNat (by omega)
        have h2 : PAt c.all.length 9 0 j = 8 * c.all.length + j + 1 := by simp [PAt]
        exact hG.seen j b hjb' (by omega) (by omega)
      have := clash_of h0 (by rw [belL_all]; exact ht.fine)
      rw [hc] at this; cases this
  unfold ringL ringBack startR
  generalize endR c.all = s at *
  generalize PAt c.all.length 9 0 = P at *
  generalize c.all = L at *
  have hx := hG.last.1
  have hall := fun m => hG.all hL hx hlast m
  have hf8 : ∀ x, x < 8 → predR L s x < 8 := fun x _ => by
    unfold predR
    rcases hq : L[s.by_ x]? with _ | b
    · simp
    · obtain ⟨⟨f0, f8⟩, _⟩ := hL b (List.mem_of_getElem? hq)
      simp only [Option.map_some, Option.getD_some]; omega
  obtain ⟨k, k1, k8, hk⟩ := cycle8 hf8 hx
  obtain ⟨j, j1, jk, hj, hmin⟩ := least_back k k (Nat.le_refl _) k1 hk
  obtain ⟨st, hst⟩ : ∃ st, iterN (predR L s) 8 s.last = st := ⟨_, rfl⟩
  rw [hst] at hj hmin ⊢
  obtain ⟨u, hu⟩ : ∃ u : Nat → Nat, u = fun i => iterN (predR L s) i st := ⟨_, rfl⟩
  have hui : ∀ i, u i = iterN (predR L s) i st := fun i => by rw [hu]
  have hu8 : ∀ i, u i < 8 ∧ 0 < T (u i) := fun i => by
    have := hall (8 + i)
    rw [iterN_add, hst] at this
    rw [hui]; exact this
  have hus : ∀ i, u (i + 1) = predR L s (u i) := fun i => by rw [hui, hui, iterN_succ]
  have hb : ∀ i, ∃ b, L[s.by_ (u i)]? = some b ∧ b.t = (u i : Int) ∧ b.f = (u (i + 1) : Int) ∧ s.sm (u (i + 1)) + b.m ≤ s.sm (u i) ∧ (T (u i) < T (u (i + 1)) → s.sm (u (i + 1)) + b.m < s.sm (u i)) := fun i => by
    obtain ⟨_, b, h1, h2, h3, h4, h5, _⟩ := hG.pred hL (hu8 i).1 (hu8 i).2
    rw [← hus] at h3 h4 h5
    obtain ⟨⟨f0, _⟩, ⟨t0, _⟩, _⟩ := hL b (List.mem_of_getElem? h1)
    exact ⟨b, h1, by omega, by omega, h4, h5⟩
  have hne1 : u 1 ≠ u 0 := fun e => by
    obtain ⟨b, h1, h2, h3, _⟩ := hb 0
    exact hd b (List.mem_of_getElem? h1) (by rw [h2, h3, Nat.zero_add, e])
  have hu0 : u 0 = st := by rw [hui]; rfl
  have huj : u j = u 0 := by rw [hui, hj, hu0]
  have j2 : 2 ≤ j := by
    rcases Nat.lt_or_ge j 2 with h | h
    · obtain rfl : j = 1 := by omega
      exact absurd huj hne1
    · exact h
  have hlist : st :: pathR (predR L s) st 8 (predR L s st) = (List.range j).map u := by
    have := path_is hj hmin (j - 1) 1 (Nat.le_refl _) (by omega) 8 (by omega)
    rw [show predR L s st = iterN (predR L s) 1 st from rfl, this]
    obtain ⟨n, rfl⟩ : ∃ n, j = n + 1 := ⟨j - 1, by omega⟩
    rw [List.range_succ_eq_map, Nat.add_sub_cancel]
    simp only [List.map_cons, List.map_map, hu0]
    congr 1
    refine List.map_congr_left fun i _ => ?_
    show iterN (predR L s) (1 + i) st = u (i + 1)
    rw [hui]; congr 1; omega
  rw [hlist, List.map_map]
  have hcomp : ((fun x => (s.by_ x : Int)) ∘ u) = fun i => (s.by_ (u i) : Int) := rfl
  rw [hcomp]
  have hsum : ∀ i, i ≤ j → sumBy L s u i ≤ s.sm (u 0) - s.sm (u i) ∧ (sumBy L s u i < s.sm (u 0) - s.sm (u i) ∨ (1 ≤ i → T (u i) ≤ T (u 1) ∧ T (u 1) ≤ T (u 0))) := by
    intro i
    induction i with
    | zero => intro _; exact ⟨by simp [sumBy], .inr fun h => by omega⟩
    | succ i ih =>
      intro hi
      obtain ⟨h1, h2⟩ := ih (by omega)
      obtain ⟨b, b1, b2, b3, b4, b5⟩ := hb i
      have e : sumBy L s u (i + 1) = sumBy L s u i + b.m := by simp [sumBy, b1]
      rw [e]
      refine ⟨by omega, ?_⟩
      rcases h2 with h2 | h2
      · left; omega
      · rcases Nat.lt_or_ge (T (u i)) (T (u (i + 1))) with h3 | h3
        · left; have := b5 h3; omega
        · right
          intro _
          rcases Nat.eq_zero_or_pos i with h4 | h4
          · subst h4; exact ⟨Nat.le_refl _, h3⟩
          · have := h2 h4; omega
  refine ⟨by simpa using j2, by simp; omega, fun i hi => ?_, ?_, ?_⟩
  · rw [List.mem_reverse, List.mem_map] at hi
    obtain ⟨a, _, rfl⟩ := hi
    obtain ⟨b, h1, _⟩ := hb a
    have := (List.getElem?_eq_some_iff.1 h1).1
    omega
  · unfold List.Nodup
    rw [List.pairwise_reverse, List.pairwise_map]
    refine List.Pairwise.imp_of_mem ?_ List.pairwise_lt_range
    intro a b ha hb' hab e0
    have e := e0.symm
    rw [List.mem_range] at ha hb'
    have e1 : s.by_ (u a) = s.by_ (u b) := by omega
    obtain ⟨x, x1, x2, _⟩ := hb a
    obtain ⟨y, y1, y2, _⟩ := hb b
    rw [e1, y1] at x1
    cases x1
    have e2 : u a = u b := by omega
    have e3 : iterN (predR L s) (a + (j - b)) st = st := by
      rw [iterN_add, ← hui, e2, hui, ← iterN_add, show b + (j - b) = j by omega]; exact hj
    exact hmin _ (by omega) (by omega) e3
  · obtain ⟨b, h1, h2, h3, _⟩ := hb (j - 1)
    rw [show j - 1 + 1 = j by omega, huj] at h3
    have hal := along_back (L := L) (s := s) (u := u) (k := j) (fun i _ => by obtain ⟨b, q1, q2, q3, _⟩ := hb i; exact ⟨b, q1, q2, q3⟩) j (Nat.le_refl _) 0
    rw [huj, Int.zero_add] at hal
    refine ⟨s.by_ (u (j - 1)), b, sumBy L s u j, ?_, h1, ?_, by rw [h3]; exact hal⟩
    · rw [List.getElem?_reverse (by simp; omega)]
      simp only [List.length_map, List.length_range, List.getElem?_map, Nat.sub_zero]
      rw [List.getElem?_range (by omega)]; rfl
    · obtain ⟨g1, g2⟩ := hsum j (Nat.le_refl _)
      rw [huj] at g1 g2
      rcases g2 with g2 | g2
      · omega
      · have g3 := g2 (by omega)
        exact absurd (hG.inj (u 1) (u 0) (hu8 1).1 (hu8 0).1 (hu8 1).2 (by omega)) hne1
end Go.Proofs.Ytgnjhaomlbkgcaa

namespace Go.Proofs.Ytgnjhaomlbkgcaa
open Go Go.RowKit
set_option linter.unusedVariables false
set_option linter.unusedSimpArgs false

/-- One bound is looked at; was: the sums as they were when the round began. -/
def bstep (was : Nat → Int) (s : RS) (p : Nat × Bd) : RS :=
  if was p.2.f.toNat ≠ far ∧ was p.2.f.toNat + p.2.m < s.sm p.2.t.toNat then ⟨upd1 s.sm p.2.t.toNat (was p.2.f.toNat + p.2.m), upd1 s.by_ p.2.t.toNat p.1, 0⟩ else s
def bpass (was : Nat → Int) (s : RS) (L : List (Nat × Bd)) : RS := L.foldl (bstep was) s
def brun (L : List (Nat × Bd)) : Nat → RS → RS
  | 0, s => s
  | n + 1, s => brun L n (bpass s.sm s L)
def BS0 (a : Nat) : RS := ⟨fun x => if x = a then 0 else far, fun _ => 0, 0⟩
theorem brun_snoc (L : List (Nat × Bd)) : ∀ (n : Nat) (s : RS), brun L (n + 1) s = bpass (brun L n s).sm (brun L n s) L := by
  intro n
  induction n with
  | zero => intro s; rfl
  | succ n ih => intro s; show brun L (n + 1) (bpass s.sm s L) = _; rw [ih]; rfl

/-- What is known of the sums behind some rounds (k: the round that runs); R: the round of each event's last change. -/
structure BG (L : List Bd) (a : Nat) (was : Nat → Int) (s : RS) (R : Nat → Nat) (k : Nat) : Prop where
  row : ∀ x, x < 8 → s.sm x ≠ far → ∃ l, Row L a x l ∧ sumW l = s.sm x
  wrow : ∀ x, x < 8 → was x ≠ far → ∃ l, Row L a x l ∧ sumW l = was x
  le : ∀ x, x < 8 → s.sm x ≤ was x
  wle : ∀ x, x < 8 → was x ≤ far
  same : ∀ x, x < 8 → R x < k → s.sm x = was x
  new : ∀ x, x < 8 → k ≤ R x → s.sm x < was x
  rle : ∀ x, x < 8 → R x ≤ k
  zero : s.sm a = 0
  led : ∀ x, x < 8 → x ≠ a → s.sm x ≠ far → ∃ b, L[s.by_ x]? = some b ∧ b.t.toNat = x ∧ s.sm b.f.toNat ≠ far ∧ s.sm b.f.toNat + b.m ≤ s.sm x ∧ (R x ≤ R b.f.toNat → s.sm b.f.toNat + b.m < s.sm x)
  wlt : ∀ x, x < 8 → was x ≠ far → was x ≤ 1000 * (k : Int) - 1000
  wlo : ∀ x, x < 8 → 1000 - 1000 * (k : Int) ≤ was x
  slt : ∀ x, x < 8 → s.sm x ≠ far → s.sm x ≤ 1000 * (k : Int)
  slo : ∀ x, x < 8 → -(1000 * (k : Int)) ≤ s.sm x
theorem BG.step {L : List Bd} (hL : ∀ b ∈ L, b.ok) (hf : Fine L) {a : Nat} (ha : a < 8) {was : Nat → Int} {s : RS} {R : Nat → Nat} {k i : Nat} {b : Bd} (hk : 1 ≤ k) (hk2 : k ≤ 100) (h : BG L a was s R k) (hi : L[i]? = some b) :
    ∃ R', BG L a was (bstep was s (i, b)) R' k := by
  have hb := List.mem_of_getElem? hi
  obtain ⟨⟨f0, f8⟩, ⟨t0, t8⟩, m0, m1⟩ := hL b hb
  by_cases hc : was b.f.toNat ≠ far ∧ was b.f.toNat + b.m < s.sm b.t.toNat
  · have hr : bstep was s (i, b) = ⟨upd1 s.sm b.t.toNat (was b.f.toNat + b.m), upd1 s.by_ b.t.toNat i, 0⟩ := by unfold bstep; rw [if_pos hc]
    rw [hr]
    obtain ⟨h1, h2⟩ := hc
    obtain ⟨l, hl, hs⟩ := h.wrow b.f.toNat (by omega) h1
    have hl2 := hl.snoc hb
    have hs2 : sumW (l ++ [b]) = was b.f.toNat + b.m := by rw [sumW_app, hs]; simp [sumW]
    have hwb := h.wlt b.f.toNat (by omega) h1
    have hwb2 := h.wlo b.f.toNat (by omega)
    have hne : b.t.toNat ≠ a := fun e => by
      rw [e] at hl2 h2
      have := hf a _ ha hl2
      rw [h.zero] at h2
      omega
    have hnf : was b.f.toNat + b.m ≠ far := by unfold far; omega
    have hsf : ∀ x, x < 8 → was x ≠ far → s.sm x ≠ far := fun x hx hw0 => by
      have := h.le x hx
      have h9 := h.wle x hx
      intro e
      exact hw0 (by omega)
    refine ⟨fun x => if x = b.t.toNat then k else R x, ?_⟩
    have hu : ∀ x, upd1 s.sm b.t.toNat (was b.f.toNat + b.m) x = if x = b.t.toNat then was b.f.toNat + b.m else s.sm x := fun x => rfl
    have hub : ∀ x, upd1 s.by_ b.t.toNat i x = if x = b.t.toNat then i else s.by_ x := fun x => rfl
    refine ⟨fun x hx hn => ?_, h.wrow, fun x hx => ?_, h.wle, fun x hx hlt => ?_, fun x hx hge => ?_, fun x hx => ?_, ?_, fun x hx hxa hn => ?_, h.wlt, h.wlo, fun x hx hn => ?_, fun x hx => ?_⟩ <;> simp only [hu, hub] at *
    · by_cases e : x = b.t.toNat
      · rw [if_pos e] at hn ⊢; subst e; exact ⟨_, hl2, hs2⟩
      · rw [if_neg e] at hn ⊢; exact h.row x hx hn
    · have := h.le x hx
      split
      · rename_i e; subst e; omega
      · exact this
    · by_cases e : x = b.t.toNat
      · rw [if_pos e] at hlt; omega
      · rw [if_neg e] at hlt ⊢; exact h.same x hx hlt
    · by_cases e : x = b.t.toNat
      · rw [if_pos e]; subst e; have := h.le b.t.toNat (by omega); omega
      · rw [if_neg e] at hge ⊢; exact h.new x hx hge
    · split
      · exact Nat.le_refl _
      · exact h.rle x hx
    · rw [if_neg (fun e => hne e.symm)]; exact h.zero
    · by_cases e : x = b.t.toNat
      · subst e
        simp only [if_true] at hn ⊢
        by_cases ef : b.f.toNat = b.t.toNat
        · -- the bound leads from the event to itself: it cannot have made the sum less
          exfalso
          have hl3 := Row.one (L := L) hb
          rw [← ef] at hl3
          have h5 := hf b.f.toNat [b] (by omega) hl3
          simp only [sumW] at h5
          have h6 := h.le b.t.toNat (by omega)
          rw [← ef] at h6 h2
          omega
        · refine ⟨b, hi, rfl, ?_, ?_, ?_⟩
          · rw [if_neg ef]; exact hsf _ (by omega) h1
          · rw [if_neg ef]; have := h.le b.f.toNat (by omega); omega
          · rw [if_neg ef, if_neg ef]
            intro hge
            have := h.new b.f.toNat (by omega) hge
            omega
      · rw [if_neg e] at hn
        obtain ⟨c, c1, c2, c3, c4, c5⟩ := h.led x hx hxa hn
        refine ⟨c, by rw [if_neg e]; exact c1, c2, ?_, ?_, ?_⟩
        · split
          · exact hnf
          · exact c3
        · rw [if_neg e]
          split
          · rename_i e2; rw [e2] at c4; omega
          · exact c4
        · rw [if_neg e, if_neg e]
          by_cases e2 : c.f.toNat = b.t.toNat
          · rw [if_pos e2, if_pos e2]; intro _; rw [e2] at c4; omega
          · rw [if_neg e2, if_neg e2]; exact c5
    · by_cases e : x = b.t.toNat
      · rw [if_pos e]; omega
      · rw [if_neg e] at hn ⊢; exact h.slt x hx hn
    · by_cases e : x = b.t.toNat
      · rw [if_pos e]; omega
      · rw [if_neg e]; exact h.slo x hx
  · have hr : bstep was s (i, b) = s := by unfold bstep; rw [if_neg hc]
    rw [hr]
    exact ⟨R, h⟩
/-- What is known between two rounds. -/
structure BI (L : List Bd) (a : Nat) (s : RS) (R : Nat → Nat) (k : Nat) : Prop where
  row : ∀ x, x < 8 → s.sm x ≠ far → ∃ l, Row L a x l ∧ sumW l = s.sm x
  le : ∀ x, x < 8 → s.sm x ≤ far
  rle : ∀ x, x < 8 → R x ≤ k
  zero : s.sm a = 0
  led : ∀ x, x < 8 → x ≠ a → s.sm x ≠ far → ∃ b, L[s.by_ x]? = some b ∧ b.t.toNat = x ∧ s.sm b.f.toNat ≠ far ∧ s.sm b.f.toNat + b.m ≤ s.sm x ∧ (R x ≤ R b.f.toNat → s.sm b.f.toNat + b.m < s.sm x)
  slt : ∀ x, x < 8 → s.sm x ≠ far → s.sm x ≤ 1000 * (k : Int)
  slo : ∀ x, x < 8 → -(1000 * (k : Int)) ≤ s.sm x
theorem BI.start (L : List Bd) {a : Nat} (ha : a < 8) : BI L a (BS0 a) (fun _ => 0) 0 := by
  refine ⟨fun x hx hn => ?_, fun x hx => ?_, fun _ _ => Nat.le_refl _, by simp [BS0], fun x hx hxa hn => ?_, fun x hx hn => ?_, fun x hx => ?_⟩ <;> simp only [BS0] at *
  · by_cases e : x = a
    · subst e; exact ⟨[], Row.nil _ _, by simp [sumW]⟩
    · rw [if_neg e] at hn; exact absurd rfl hn
  · unfold far; split <;> omega
  · rw [if_neg hxa] at hn; exact absurd rfl hn
  · by_cases e : x = a
    · rw [if_pos e]; omega
    · rw [if_neg e] at hn; exact absurd rfl hn
  · unfold far; split <;> omega
theorem BI.open_ {L : List Bd} {a : Nat} {s : RS} {R : Nat → Nat} {k : Nat} (h : BI L a s R k) : BG L a s.sm s R (k + 1) :=
  ⟨h.row, h.row, fun _ _ => Int.le_refl _, h.le, fun _ _ _ => rfl, fun x hx hge => by have := h.rle x hx; omega, fun x hx => Nat.le_succ_of_le (h.rle x hx), h.zero, h.led, fun x hx hn => by have := h.slt x hx hn; omega, fun x hx => by have := h.slo x hx; omega, fun x hx hn => by have := h.slt x hx hn; omega, fun x hx => by have := h.slo x hx; omega⟩
theorem BG.close {L : List Bd} {a : Nat} {was : Nat → Int} {s : RS} {R : Nat → Nat} {k : Nat} (h : BG L a was s R k) : BI L a s R k :=
  ⟨h.row, fun x hx => by have := h.le x hx; have := h.wle x hx; omega, h.rle, h.zero, h.led, h.slt, h.slo⟩
theorem BG.pass {L : List Bd} (hL : ∀ b ∈ L, b.ok) (hf : Fine L) {a : Nat} (ha : a < 8) {was : Nat → Int} {k : Nat} (hk : 1 ≤ k) (hk2 : k ≤ 100) : ∀ (m i : Nat) {s : RS} {R : Nat → Nat}, i + m = L.length → BG L a was s R k → ∃ R', BG L a was (bpass was s ((numFrom 0 L).drop i)) R' k := by
  intro m
  induction m with
  | zero =>
    intro i s R hi h
    rw [numFrom_dropEnd L 0 _ (by omega)]
    exact ⟨R, h⟩
  | succ m ih =>
    intro i s R hi h
    obtain ⟨b, hb⟩ := get_of_lt L i (by omega)
    rw [numFrom_get L 0 i b hb, Nat.zero_add]
    obtain ⟨R', h'⟩ := h.step hL hf ha hk hk2 hb
    exact ih (i + 1) (by omega) h'
theorem BI.runs {L : List Bd} (hL : ∀ b ∈ L, b.ok) (hf : Fine L) {a : Nat} (ha : a < 8) : ∀ n, n ≤ 99 → ∃ R, BI L a (brun (numFrom 0 L) n (BS0 a)) R n := by
  intro n
  induction n with
  | zero => exact fun _ => ⟨_, BI.start L ha⟩
  | succ n ih =>
    intro hn
    obtain ⟨R, h⟩ := ih (by omega)
    rw [brun_snoc]
    obtain ⟨R', h'⟩ := BG.pass hL hf ha (by omega) (by omega) L.length 0 (by omega) h.open_
    rw [List.drop_zero] at h'
    exact ⟨R', h'.close⟩

/-! ### All rows of so many bounds have been seen -/
theorem bstep_le (was : Nat → Int) (s : RS) (p : Nat × Bd) (x : Nat) : (bstep was s p).sm x ≤ s.sm x := by
  unfold bstep
  split
  · rename_i h
    show upd1 _ _ _ x ≤ _
    unfold upd1
    split
    · rename_i e; rw [e]; omega
    · exact Int.le_refl _
  · exact Int.le_refl _
theorem bpass_le (was : Nat → Int) : ∀ (M : List (Nat × Bd)) (s : RS) (x : Nat), (bpass was s M).sm x ≤ s.sm x := by
  intro M
  induction M with
  | nil => exact fun s x => Int.le_refl _
  | cons p M ih => exact fun s x => Int.le_trans (ih _ x) (bstep_le was s p x)
theorem bpass_has (was : Nat → Int) : ∀ (M : List (Nat × Bd)) (s : RS) (p : Nat × Bd), p ∈ M → was p.2.f.toNat ≠ far → (bpass was s M).sm p.2.t.toNat ≤ was p.2.f.toNat + p.2.m := by
  intro M
  induction M with
  | nil => intro s p h; cases h
  | cons q M ih =>
    intro s p h hw
    rcases List.mem_cons.1 h with rfl | h
    · refine Int.le_trans (bpass_le was M _ _) ?_
      unfold bstep
      split
      · show upd1 _ _ _ _ ≤ _
        unfold upd1
        rw [if_pos rfl]; exact Int.le_refl _
      · rename_i hc
        have : ¬ was p.2.f.toNat + p.2.m < s.sm p.2.t.toNat := fun e => hc ⟨hw, e⟩
        omega
    · exact ih _ p h hw
theorem mem_numFrom {L : List Bd} {b : Bd} (h : b ∈ L) : ∃ i, (i, b) ∈ numFrom 0 L := by
  have : b ∈ (numFrom 0 L).map (·.2) := by rw [numFrom_snd']; exact h
  obtain ⟨⟨i, x⟩, h1, h2⟩ := List.mem_map.1 this
  simp only at h2
  subst h2
  exact ⟨i, h1⟩
theorem brun_row {L : List Bd} (hL : ∀ b ∈ L, b.ok) {a : Nat} : ∀ (n : Nat) {x : Nat} {l : List Bd}, n ≤ 1000 → Row L a x l → l.length ≤ n → (brun (numFrom 0 L) n (BS0 a)).sm x ≤ sumW l := by
  intro n
  induction n with
  | zero =>
    intro x l _ h hl
    obtain rfl : l = [] := List.eq_nil_of_length_eq_zero (by omega)
    have := h.end_
    simp only [endW] at this
    subst this
    simp [brun, BS0, sumW]
  | succ n ih =>
    intro x l hn h hl
    rw [brun_snoc]
    by_cases hne : l = []
    · subst hne
      exact Int.le_trans (bpass_le _ _ _ _) (ih (by omega) h (by simp))
    · obtain ⟨m, y, rfl, hy, hm, rfl⟩ := row_snoc_inv h hne
      simp only [List.length_append, List.length_cons, List.length_nil] at hl
      have h1 := ih (by omega) hm (by omega)
      have h2 := sumW_le hL hm.mem
      obtain ⟨i, hi⟩ := mem_numFrom hy
      have h3 := bpass_has (brun (numFrom 0 L) n (BS0 a)).sm (numFrom 0 L) (brun (numFrom 0 L) n (BS0 a)) (i, y) hi (by simp only; unfold far; omega)
      rw [sumW_app]
      simp only [sumW] at *
      omega
/-- Without what comes back to where it began, among so many events. -/
theorem row_few {L : List Bd} {ev : Nat} (hL : ∀ b ∈ L, b.f.toNat < ev ∧ b.t.toNat < ev) (he : ev ≤ 8) (hf : Fine L) {a b : Nat} (ha : a < ev) : ∀ (n : Nat) {l : List Bd}, l.length ≤ n → Row L a b l → ∃ m, Row L a b m ∧ m.length ≤ ev ∧ sumW m ≤ sumW l := by
  intro n
  induction n with
  | zero => intro l hl h; exact ⟨l, h, by omega, Int.le_refl _⟩
  | succ n ih =>
    intro l hl h
    by_cases h8 : l.length ≤ ev
    · exact ⟨l, h, h8, Int.le_refl _⟩
    · have hend : ∀ {m : List Bd} {a : Nat}, (∀ x ∈ m, x ∈ L) → a < ev → endW a m < ev := by
        intro m
        induction m with
        | nil => exact fun _ h => h
        | cons x m ihm => exact fun hm _ => ihm (fun y hy => hm y (by simp [hy])) (hL x (hm x (by simp))).2
      obtain ⟨i, j, hij, hj, hE⟩ := pigeon (fun i => endW a (l.take i)) ev (fun i _ => hend (fun x hx => h.mem x (List.mem_of_mem_take hx)) ha)
      have e1 : l = l.take i ++ (l.drop i).take (j - i) ++ l.drop j := by
        rw [List.append_assoc, show l.drop j = (l.drop i).drop (j - i) by rw [List.drop_drop]; congr 1; omega, List.take_append_drop, List.take_append_drop]
      have e2 : l.take j = l.take i ++ (l.drop i).take (j - i) := by
        have := List.take_add (l := l) (i := i) (j := j - i)
        rwa [show i + (j - i) = j by omega] at this
      have hc := h.chn
      rw [e1, chn_app, chn_app] at hc
      obtain ⟨⟨c1, c2⟩, c3⟩ := hc
      have hend2 := h.end_
      rw [e1, endW_app, endW_app] at hend2
      rw [endW_app] at c3
      rw [e2, endW_app] at hE
      have r1 : Row L a (endW a (l.take i)) (l.take i) := ⟨fun x hx => h.mem x (List.mem_of_mem_take hx), c1, rfl⟩
      have r2 : Row L (endW a (l.take i)) (endW a (l.take i)) ((l.drop i).take (j - i)) := ⟨fun x hx => h.mem x (List.mem_of_mem_drop (List.mem_of_mem_take hx)), c2, hE.symm⟩
      have r3 : Row L (endW a (l.take i)) b (l.drop j) := ⟨fun x hx => h.mem x (List.mem_of_mem_drop hx), by rw [← hE] at c3; exact c3, by rw [← hE] at hend2; exact hend2⟩
      have hv : endW a (l.take i) < ev := hend (fun x hx => h.mem x (List.mem_of_mem_take hx)) ha
      have h0 := hf _ _ (by omega) r2
      obtain ⟨m, hm, h7, hs⟩ := ih (l := l.take i ++ l.drop j) (by simp; omega) (r1.app r3)
      refine ⟨m, hm, h7, ?_⟩
      rw [e1]
      simp only [sumW_app] at *
      omega

/-! ### Back from an event -/
/-- The row from a to b, from its last bound to its first one. -/
def endB (L : List Bd) (ev a : Nat) : RS := brun (numFrom 0 L) ev (BS0 a)
def rowBack (L : List Bd) (ev a b : Nat) : List Int := (pathR (predR L (endB L ev a)) a 8 b).map fun x => ((endB L ev a).by_ x : Int)
def rowL (L : List Bd) (ev a b : Nat) : List Int := (rowBack L ev a b).reverse
theorem path_to {f : Nat → Nat} {x a : Nat} {j : Nat} (hj : iterN f j x = a) (hm : ∀ i, i < j → iterN f i x ≠ a) : ∀ (m k : Nat), k + m = j → ∀ n, m ≤ n → pathR f a n (iterN f k x) = (List.range m).map fun i => iterN f (k + i) x := by
  intro m
  induction m with
  | zero =>
    intro k h2 n _
    rw [show k = j by omega, hj]
    cases n with
    | zero => rfl
    | succ n => unfold pathR; rw [if_pos rfl]; rfl
  | succ m ih =>
    intro k h2 n hn
    cases n with
    | zero => omega
    | succ n =>
      unfold pathR
      rw [if_neg (hm k (by omega)), ← iterN_succ f k x, ih (k + 1) (by omega) n (by omega), List.range_succ_eq_map]
      simp only [List.map_cons, Nat.add_zero, List.map_map]
      congr 1
      refine List.map_congr_left fun i _ => ?_
      show iterN f (k + 1 + i) x = iterN f (k + (i + 1)) x
      congr 1; omega
structure RowOK (L : List Bd) (ev a b : Nat) (g : Int) : Prop where
  len : (rowL L ev a b).length ≤ 7
  in_ : ∀ i ∈ rowL L ev a b, 0 ≤ i ∧ i < (L.length : Int)
  nodup : (rowL L ev a b).Nodup
  sum : alongC L a 0 (rowL L ev a b) = some ((b : Int), g)
  /-- the way back, for the walk -/
  back : ∃ k, k ≤ 7 ∧ iterN (predR L (endB L ev a)) k b = a ∧ ∀ i, i < k → iterN (predR L (endB L ev a)) i b ≠ a ∧ iterN (predR L (endB L ev a)) i b < 8 ∧ ∃ x, L[(endB L ev a).by_ (iterN (predR L (endB L ev a)) i b)]? = some x ∧ x.f = (iterN (predR L (endB L ev a)) (i + 1) b : Int)
theorem row_ok {c : Cs} (h0 : checkC c = 0) (hf : Fine c.all) {a b : Nat} (ha : (a : Int) < c.ev) (hb : (b : Int) < c.ev) (hn : gapsM allT c a b ≠ far) : RowOK c.all c.ev.toNat a b (gapsM allT c a b) := by
  have hev := checkC_ev h0
  have hL := checkC_bd h0
  have hfb : Fine (belL allT c) := by rw [belL_all]; exact hf
  have hevb := (checkC_ok h0).2.2.1
  obtain ⟨R, hI⟩ := BI.runs hL hf (a := a) (by omega) c.ev.toNat (by omega)
  have hsb : (endB c.all c.ev.toNat a).sm b ≤ gapsM allT c a b := by
    obtain ⟨l, hl, hs⟩ := gap_row h0 (a := a) (b := b) (by omega) (by omega) hn
    rw [belL_all] at hl
    obtain ⟨m, hm, hm8, hms⟩ := row_few (ev := c.ev.toNat) (fun x hx => by have := evOK_get hevb hx; omega) (by omega) hf (by omega) l.length (Nat.le_refl _) hl
    have := brun_row hL c.ev.toNat (by omega) hm hm8
    show (brun _ _ _).sm b ≤ _
    omega
  have hgn := gap_near h0 hf (a := a) (b := b) (by omega) (by omega) hn
  have hend : brun (numFrom 0 c.all) c.ev.toNat (BS0 a) = endB c.all c.ev.toNat a := rfl
  rw [hend] at hI
  have hrowdef : rowL c.all c.ev.toNat a b = ((pathR (predR c.all (endB c.all c.ev.toNat a)) a 8 b).map fun x => ((endB c.all c.ev.toNat a).by_ x : Int)).reverse := rfl
  have hback : ∀ (k : Nat), k ≤ 7 → iterN (predR c.all (endB c.all c.ev.toNat a)) k b = a → (∀ i, i < k → iterN (predR c.all (endB c.all c.ev.toNat a)) i b ≠ a ∧ iterN (predR c.all (endB c.all c.ev.toNat a)) i b < 8 ∧ ∃ x, c.all[(endB c.all c.ev.toNat a).by_ (iterN (predR c.all (endB c.all c.ev.toNat a)) i b)]? = some x ∧ x.f = (iterN (predR c.all (endB c.all c.ev.toNat a)) (i + 1) b : Int)) → (rowL c.all c.ev.toNat a b).length ≤ 7 → (∀ i ∈ rowL c.all c.ev.toNat a b, 0 ≤ i ∧ i < (c.all.length : Int)) → (rowL c.all c.ev.toNat a b).Nodup → alongC c.all a 0 (rowL c.all c.ev.toNat a b) = some ((b : Int), gapsM allT c a b) → RowOK c.all c.ev.toNat a b (gapsM allT c a b) :=
    fun k h1 h2 h3 h4 h5 h6 h7 => ⟨h4, h5, h6, h7, k, h1, h2, h3⟩
  rw [hrowdef] at hback
  have hgle : ∀ l, Row c.all a b l → gapsM allT c a b ≤ sumW l := fun l hl => by
    rw [← belL_all] at hl
    exact gap_le h0 hfb (by omega) (by omega) hl
  generalize gapsM allT c a b = g at *
  generalize endB c.all c.ev.toNat a = s at *
  have ha8 : a < 8 := by omega
  have hb8 : b < 8 := by omega
  generalize c.all = L at *
  have hL0 : ∀ x ∈ L, 0 ≤ x.f ∧ 0 ≤ x.t := fun x hx => ⟨(hL x hx).1.1, (hL x hx).2.1.1⟩
  have hpred : ∀ x, x < 8 → x ≠ a → s.sm x ≠ far → predR L s x < 8 ∧ s.sm (predR L s x) ≠ far ∧ ∃ y, L[s.by_ x]? = some y ∧ y.t = (x : Int) ∧ y.f = (predR L s x : Int) ∧ s.sm (predR L s x) + y.m ≤ s.sm x ∧ (R x ≤ R (predR L s x) → s.sm (predR L s x) + y.m < s.sm x) := fun x hx hxa hxf => by
    obtain ⟨y, h1, h2, h3, h4, h5⟩ := hI.led x hx hxa hxf
    obtain ⟨⟨f0, f8⟩, ⟨t0, t8⟩, _⟩ := hL y (List.mem_of_getElem? h1)
    have hp : predR L s x = y.f.toNat := by unfold predR; rw [h1]; rfl
    rw [hp]
    exact ⟨by omega, h3, y, h1, by omega, by omega, h4, h5⟩
  obtain ⟨u, hu⟩ : ∃ u : Nat → Nat, u = fun i => iterN (predR L s) i b := ⟨_, rfl⟩
  have hui : ∀ i, iterN (predR L s) i b = u i := fun i => by rw [hu]
  have hus : ∀ i, u (i + 1) = predR L s (u i) := fun i => by rw [← hui, ← hui, iterN_succ]
  have hu0 : u 0 = b := by rw [← hui]; rfl
  have hstay : ∀ i, (∀ q, q < i → u q ≠ a) → u i < 8 ∧ s.sm (u i) ≠ far := by
    intro i
    induction i with
    | zero => intro _; rw [hu0]; exact ⟨hb8, by unfold far; omega⟩
    | succ i ih =>
      intro h
      obtain ⟨h1, h2⟩ := ih (fun q hq => h q (by omega))
      obtain ⟨p1, p2, _⟩ := hpred (u i) h1 (h i (by omega)) h2
      rw [hus]; exact ⟨p1, p2⟩
  have hstep : ∀ i, (∀ q, q ≤ i → u q ≠ a) → ∃ y, L[s.by_ (u i)]? = some y ∧ y.t = (u i : Int) ∧ y.f = (u (i + 1) : Int) ∧ s.sm (u (i + 1)) + y.m ≤ s.sm (u i) ∧ (R (u i) ≤ R (u (i + 1)) → s.sm (u (i + 1)) + y.m < s.sm (u i)) := fun i h => by
    obtain ⟨h1, h2⟩ := hstay i (fun q hq => h q (by omega))
    obtain ⟨_, _, y, h3⟩ := hpred (u i) h1 (h i (Nat.le_refl _)) h2
    rw [hus]; exact ⟨y, h3⟩
  have hcyc : ∀ i j, i < j → (∀ q, q < j → u q ≠ a) → u i ≠ u j := by
    intro i j hij hq he
    obtain ⟨v, hv⟩ : ∃ v : Nat → Nat, v = fun m => u (i + m) := ⟨_, rfl⟩
    have hvi : ∀ m, u (i + m) = v m := fun m => by rw [hv]
    have hvb : ∀ m, m < j - i → ∃ y, L[s.by_ (v m)]? = some y ∧ y.t = (v m : Int) ∧ y.f = (v (m + 1) : Int) ∧ s.sm (v (m + 1)) + y.m ≤ s.sm (v m) ∧ (R (v m) ≤ R (v (m + 1)) → s.sm (v (m + 1)) + y.m < s.sm (v m)) := fun m hm => by
      have := hstep (i + m) (fun q hqq => hq q (by omega))
      rw [show i + m + 1 = i + (m + 1) by omega, hvi, hvi] at this
      exact this
    have hsum : ∀ m, m ≤ j - i → sumBy L s v m ≤ s.sm (v 0) - s.sm (v m) ∧ (sumBy L s v m < s.sm (v 0) - s.sm (v m) ∨ R (v m) + m ≤ R (v 0)) := by
      intro m
      induction m with
      | zero => intro _; exact ⟨by simp [sumBy], .inr (Nat.le_refl _)⟩
      | succ m ih =>
        intro hm
        obtain ⟨h1, h2⟩ := ih (by omega)
        obtain ⟨y, y1, y2, y3, y4, y5⟩ := hvb m (by omega)
        have e : sumBy L s v (m + 1) = sumBy L s v m + y.m := by simp [sumBy, y1]
        rw [e]
        refine ⟨by omega, ?_⟩
        rcases h2 with h2 | h2
        · left; omega
        · rcases Nat.lt_or_ge (R (v (m + 1))) (R (v m)) with h3 | h3
          · right; omega
          · left; have := y5 h3; omega
    have hd0 : v (j - i) = v 0 := by
      rw [← hvi, ← hvi, show i + (j - i) = j by omega]; exact he.symm
    have hal := along_back (L := L) (s := s) (u := v) (k := j - i) (fun m hm => by obtain ⟨y, q1, q2, q3, _⟩ := hvb m hm; exact ⟨y, q1, q2, q3⟩) (j - i) (Nat.le_refl _) 0
    obtain ⟨l, hl, hls, _⟩ := along_row hL0 hal
    rw [hd0, Int.toNat_natCast] at hl
    have hv8 : v 0 < 8 := by rw [← hvi]; exact (hstay i (fun q hqq => hq q (by omega))).1
    have h5 := hf _ l hv8 hl
    obtain ⟨g1, g2⟩ := hsum (j - i) (Nat.le_refl _)
    rw [hd0] at g1 g2
    omega
  have hleast : ∀ n, (∃ k, k ≤ n ∧ u k = a) → ∃ k, k ≤ n ∧ u k = a ∧ ∀ i, i < k → u i ≠ a := by
    intro n
    induction n with
    | zero => rintro ⟨k, hk, e⟩; exact ⟨k, hk, e, fun i hi => by omega⟩
    | succ n ih =>
      rintro ⟨k, hk, e⟩
      by_cases hx : ∃ k, k ≤ n ∧ u k = a
      · obtain ⟨k, k1, k2, k3⟩ := ih hx
        exact ⟨k, by omega, k2, k3⟩
      · exact ⟨k, hk, e, fun i hi e2 => hx ⟨i, by omega, e2⟩⟩
  have hmeet : ∃ k, k ≤ 8 ∧ u k = a := by
    by_cases hx : ∃ k, k ≤ 8 ∧ u k = a
    · exact hx
    · exfalso
      have hno : ∀ q, q ≤ 8 → u q ≠ a := fun q hq e => hx ⟨q, hq, e⟩
      obtain ⟨i, j, hij, hj, he⟩ := pigeon u 8 (fun i hi => (hstay i (fun q hq => hno q (by omega))).1)
      exact hcyc i j hij (fun q hq => hno q (by omega)) he
  obtain ⟨k, k8, hk, hmin⟩ := hleast 8 hmeet
  have k7 : k ≤ 7 := by
    rcases Nat.lt_or_ge k 8 with h | h
    · omega
    · exfalso
      obtain ⟨i, j, hij, hj, he⟩ := pigeon u 8 (fun i hi => (hstay i (fun q hq => hmin q (by omega))).1)
      exact hcyc i j hij (fun q hq => hmin q (by omega)) he
  have hpath : pathR (predR L s) a 8 b = (List.range k).map u := by
    have := path_to (f := predR L s) (x := b) (a := a) (j := k) (by rw [hui]; exact hk) (fun i hi => by rw [hui]; exact hmin i hi) k 0 (by omega) 8 (by omega)
    rw [show iterN (predR L s) 0 b = b from rfl] at this
    rw [this]
    refine List.map_congr_left fun i _ => ?_
    rw [Nat.zero_add, hui]
  have hst : ∀ i, i < k → ∃ y, L[s.by_ (u i)]? = some y ∧ y.t = (u i : Int) ∧ y.f = (u (i + 1) : Int) ∧ s.sm (u (i + 1)) + y.m ≤ s.sm (u i) := fun i hi => by
    obtain ⟨y, h1, h2, h3, h4, _⟩ := hstep i (fun q hq => hmin q (by omega))
    exact ⟨y, h1, h2, h3, h4⟩
  have hal := along_back (L := L) (s := s) (u := u) (k := k) (fun m hm => by obtain ⟨y, q1, q2, q3, _⟩ := hst m hm; exact ⟨y, q1, q2, q3⟩) k (Nat.le_refl _) 0
  have hsum : ∀ m, m ≤ k → sumBy L s u m ≤ s.sm (u 0) - s.sm (u m) := by
    intro m
    induction m with
    | zero => intro _; simp [sumBy]
    | succ m ih =>
      intro hm
      have h1 := ih (by omega)
      obtain ⟨y, y1, y2, y3, y4⟩ := hst m (by omega)
      have e : sumBy L s u (m + 1) = sumBy L s u m + y.m := by simp [sumBy, y1]
      rw [e]; omega
  have hsk := hsum k (Nat.le_refl _)
  rw [hk, hu0, hI.zero] at hsk
  rw [hk, hu0, Int.zero_add] at hal
  have hg : sumBy L s u k = g := by
    obtain ⟨l, hl, hls, _⟩ := along_row hL0 hal
    rw [Int.toNat_natCast] at hl
    have := hgle l hl
    omega
  rw [hg] at hal
  have hrl : (pathR (predR L s) a 8 b).map (fun x => (s.by_ x : Int)) = (List.range k).map fun i => (s.by_ (u i) : Int) := by
    rw [hpath, List.map_map]; rfl
  rw [hrl] at hback
  refine hback k k7 (by rw [hui]; exact hk) (fun i hi => ?_) (by simp; omega) (fun i hi => ?_) ?_ hal
  · obtain ⟨y, y1, _, y3, _⟩ := hst i hi
    rw [hui, hui]
    exact ⟨hmin i hi, (hstay i (fun q hq => hmin q (by omega))).1, y, y1, y3⟩
  · rw [List.mem_reverse, List.mem_map] at hi
    obtain ⟨m, hm, rfl⟩ := hi
    obtain ⟨y, y1, _⟩ := hst m (List.mem_range.1 hm)
    have := (List.getElem?_eq_some_iff.1 y1).1
    omega
  · unfold List.Nodup
    rw [List.pairwise_reverse, List.pairwise_map]
    refine List.Pairwise.imp_of_mem ?_ List.pairwise_lt_range
    intro m n hm hn' hmn e0
    have e := e0.symm
    have hm' := List.mem_range.1 hm
    have hn2 := List.mem_range.1 hn'
    obtain ⟨x, x1, x2, _⟩ := hst m hm'
    obtain ⟨y, y1, y2, _⟩ := hst n hn2
    have e1 : s.by_ (u m) = s.by_ (u n) := by omega
    rw [e1, y1] at x1
    cases x1
    exact hcyc m n hmn (fun q hq => hmin q (by omega)) (by omega)
end Go.Proofs.Ytgnjhaomlbkgcaa

namespace Go.Proofs.Ytgnjhaomlbkgcaa
open Go Go.RowKit Go.Shelf Go.Maps
set_option linter.unusedVariables false
set_option linter.unusedSimpArgs false

/-! A block of eight numbers -/
def l8 (f : Nat → Int) : List Int := (List.range 8).map f
theorem l8_len (f : Nat → Int) : (l8 f).length = 8 := by simp [l8]
theorem l8_get (f : Nat → Int) {k : Nat} (h : k < 8) : (l8 f)[k]? = some (f k) := by simp [l8, h]
theorem l8_congr {f g : Nat → Int} (h : ∀ k, k < 8 → f k = g k) : l8 f = l8 g := List.map_congr_left fun k hk => h k (by simpa using hk)
theorem l8_eq {f g : Nat → Int} (h : l8 f = l8 g) {k : Nat} (hk : k < 8) : f k = g k := by
  have h1 := l8_get f hk
  rw [h, l8_get g hk] at h1
  exact (Option.some.inj h1).symm
theorem l8_upd (f : Nat → Int) (k : Nat) (x : Int) : l8 (upd1 f k x) = (l8 f).set k x := by
  apply List.ext_getElem?
  intro j
  simp only [List.getElem?_set, l8_len, l8, List.getElem?_map, List.getElem?_range', List.length_map, List.length_range]
  by_cases hj : j < 8
  · rw [List.getElem?_range hj]
    by_cases e : j = k
    · subst e; simp [upd1, hj]
    · have e' : ¬ k = j := fun q => e q.symm
      simp [upd1, e, e']
  · have h1 : (List.range 8)[j]? = none := by simp; omega
    rw [h1]
    by_cases e : k = j
    · subst e; simp [hj]
    · simp [e]
def A8 (w : World) (B : Nat) (f : Nat → Int) : Prop := w.heap[B]? = some (.cells ((l8 f).map (.int .i64)).toArray 56 (0, 0))
theorem A8.lt {w : World} {B : Nat} {f : Nat → Int} (h : A8 w B f) : B < w.heap.size := (Array.getElem?_eq_some_iff.1 h).1
theorem A8.ext {w w' : World} {B : Nat} {f : Nat → Int} (h : A8 w B f) (hx : Ext w w') : A8 w' B f := (Below.block hx B h.lt).trans h
theorem A8.belS {S : Nat → Prop} {w w' : World} {B : Nat} {f : Nat → Int} (h : A8 w B f) (hx : BelS S w w') (hn : ¬ S B) : A8 w' B f := hx.heap h hn
theorem A8.congr {w : World} {B : Nat} {f g : Nat → Int} (h : A8 w B f) (e : ∀ k, k < 8 → f k = g k) : A8 w B g := by
  unfold A8 at *; rw [← l8_congr e]; exact h
theorem A8.cells {w : World} {B : Nat} {f : Nat → Int} (h : A8 w B f) : ∀ j v, ((l8 f).map (Value.int .i64))[j]? = some v → w.cell? ((⟨B, 0, none⟩ : Addr).add j) = some v := fun j v hj => by
  rw [Addr.add_lit, Nat.zero_add, cell_of_row w B j _ _ _ h]
  simpa using hj
theorem A8.at_ {w : World} {B : Nat} {f : Nat → Int} (h : A8 w B f) {k : Nat} (hk : k < 8) : w.cell? ⟨B, k, none⟩ = some (.int .i64 (f k)) := by
  rw [cell_of_row w B k _ _ _ h]
  simp [l8_get f hk]
theorem A8.frozen {w : World} {B : Nat} {f : Nat → Int} (h : A8 w B f) (k : Nat) : w.frozen? ⟨B, k, none⟩ = false := by
  unfold A8 at h
  simp [World.frozen?, h]
theorem A8.set {w : World} {B : Nat} {f : Nat → Int} (h : A8 w B f) (k : Nat) (x : Int) : A8 (w.setCell ⟨B, k, none⟩ (.int .i64 x)) B (upd1 f k x) := by
  unfold A8 at h ⊢
  rw [l8_upd]
  simp only [World.setCell, Array.getElem?_modify, h, if_true, Option.map_some]
  simp only [List.setIfInBounds_toArray, List.map_set, Option.isSome_none, Bool.false_eq_true, if_false]
theorem A8.own {β : Type} (B0 B : Nat) (f : β → Nat → Int) : OwnFrom B0 (fun s W => A8 W B (f s)) := fun s X Y row hs hg hrow => by
  unfold A8 at *
  refine (hg.block B (Array.getElem?_eq_some_iff.1 hs).1 (fun e => ?_)).trans hs
  obtain ⟨o, ho, hc⟩ := (hrow B e.symm).2
  rw [hs] at ho; cases ho; cases hc
theorem info8 : (Try.prog.info? 56).map (·.size) = some 8 := by kernel_rfl

/-! The map of the bounds found last -/
def MapArc (w : World) (M n : Nat) (a : Nat) (by_ : Nat → Nat) : Prop := ∃ D : DataW Unit, w.ownsMap Try.prog 176 (plainElem Try.prog 3) M n D ∧ ∀ x : Nat, x < 8 → D.atKey (arcL a x) (.lit (.int .i64 0)) = .lit (.int .i64 ((by_ x : Nat) : Int))
theorem MapArc.mono {w : World} {M n m a : Nat} {b : Nat → Nat} (h : MapArc w M n a b) (hm : n ≤ m) : MapArc w M m a b := by
  obtain ⟨D, h1, h2⟩ := h
  exact ⟨D, h1.mono hm, h2⟩
theorem MapArc.lt {w : World} {M n a : Nat} {b : Nat → Nat} (h : MapArc w M n a b) : M < w.heap.size := by
  obtain ⟨D, h1, h2⟩ := h
  exact h1.lt
theorem MapArc.kept {w w' : World} {M n a : Nat} {b : Nat → Nat} {row : Option Nat} (h : MapArc w M n a b) (hg : w.grownBy w' row) (hn : some M ≠ row) : MapArc w' M n a b := by
  obtain ⟨D, h1, h2⟩ := h
  exact ⟨D, h1.kept hg hn, h2⟩
theorem MapArc.heap {w w' : World} {M n a : Nat} {b : Nat → Nat} (h : MapArc w M n a b) (he : w'.heap[M]? = w.heap[M]?) : MapArc w' M n a b := by
  obtain ⟨D, ⟨es, cl, hb, F, hs, hD⟩, h2⟩ := h
  exact ⟨D, ⟨es, cl, he.trans hb, F, hs, hD⟩, h2⟩
theorem MapArc.ext {w w' : World} {M n a : Nat} {b : Nat → Nat} (h : MapArc w M n a b) (hx : Ext w w') : MapArc w' M n a b := h.heap (Below.block hx M h.lt)
theorem MapArc.belS {S : Nat → Prop} {w w' : World} {M n a : Nat} {b : Nat → Nat} (h : MapArc w M n a b) (hx : BelS S w w') (hn : ¬ S M) : MapArc w' M n a b := h.heap (hx.2 M h.lt hn)
theorem MapArc.setCell {w : World} {M n a : Nat} {b : Nat → Nat} (h : MapArc w M n a b) (p : Addr) (u : Value) (hp : M ≠ p.block) : MapArc (w.setCell p u) M n a b := h.heap (heap_setCell_ne _ _ _ _ hp)
theorem MapArc.start (w : World) (a : Nat) : MapArc (w.alloc (.map #[] 0)) w.heap.size 0 a (fun _ => 0) := ⟨.map [], World.ownsMap_made _ _ _ _, fun _ _ => rfl⟩
theorem wf8 {x : Nat} (h : x < 8) : (Lit.int .i64 (x : Int)).wf = true := WalkArith.wf_i64 (by omega)
theorem map_put {D : DataW Unit} {a : Nat} (ha : a < 8) {b : Nat → Nat} (hD : IsMap D) (h : ∀ x : Nat, x < 8 → D.atKey (arcL a x) (.lit (.int .i64 0)) = .lit (.int .i64 ((b x : Nat) : Int))) {t : Nat} (ht : t < 8) (i : Nat) :
    ∀ x : Nat, x < 8 → (D.put (arcL a t) (.lit (.int .i64 (i : Int)))).atKey (arcL a x) (.lit (.int .i64 0)) = .lit (.int .i64 ((upd1 b t i x : Nat) : Int)) := fun x hx => by
  unfold upd1
  by_cases e : x = t
  · subst e
    rw [if_pos rfl, atKey_put_same hD (arcL_lit _ _)]
  · rw [if_neg e, atKey_put_other (fun q => e (by have := arcL_inj (wf8 ha) (wf8 hx) (wf8 ht) q; omega))]
    exact h x hx

/-! Rounds -/
theorem bstep_yes {was : Nat → Int} {s : RS} {i fn tn : Nat} {m : Int} (h1 : was fn ≠ far) (h2 : was fn + m < s.sm tn) : bstep was s (i, ⟨fn, tn, m⟩) = ⟨upd1 s.sm tn (was fn + m), upd1 s.by_ tn i, 0⟩ := by
  unfold bstep; rw [if_pos ⟨by simpa using h1, by simpa using h2⟩]; rfl
theorem bstep_no {was : Nat → Int} {s : RS} {i fn tn : Nat} {m : Int} (h : ¬ (was fn ≠ far ∧ was fn + m < s.sm tn)) : bstep was s (i, ⟨fn, tn, m⟩) = s := by
  unfold bstep; rw [if_neg (by simpa using h)]
theorem bpass_snoc (was : Nat → Int) (s : RS) (L : List (Nat × Bd)) (p : Nat × Bd) : bpass was s (L ++ [p]) = bstep was (bpass was s L) p := by
  unfold bpass; rw [List.foldl_append]; rfl
theorem bpass_fix {was : Nat → Int} : ∀ (M : List (Nat × Bd)) (s : RS), (∀ p ∈ M, p.2.ok) → (∀ x, x < 8 → s.sm x ≤ was x) → (∀ x, x < 8 → (bpass was s M).sm x = was x) → bpass was s M = s := by
  intro M
  induction M with
  | nil => intro s _ _ _; rfl
  | cons p M ih =>
    intro s hok hle heq
    have hstep : bstep was s p = s := by
      unfold bstep
      split
      · rename_i h
        have hp := hok p (by simp)
        obtain ⟨⟨f0, f8⟩, ⟨t0, t8⟩, _⟩ := hp
        have ht : p.2.t.toNat < 8 := by omega
        have e1 := heq p.2.t.toNat ht
        have e2 := bpass_le was M (bstep was s p) p.2.t.toNat
        have e3 : (bstep was s p).sm p.2.t.toNat = was p.2.f.toNat + p.2.m := by unfold bstep; rw [if_pos h]; simp [upd1]
        have e4 := hle p.2.t.toNat ht
        have e5 : bpass was s (p :: M) = bpass was (bstep was s p) M := rfl
        rw [e5] at e1
        omega
      · rfl
    have e5 : bpass was s (p :: M) = bpass was (bstep was s p) M := rfl
    rw [e5, hstep] at heq ⊢
    exact ih s (fun q hq => hok q (by simp [hq])) hle heq
theorem brun_fix {L : List (Nat × Bd)} : ∀ (n : Nat) {s : RS}, bpass s.sm s L = s → brun L n s = s := by
  intro n
  induction n with
  | zero => intro s _; rfl
  | succ n ih => intro s h; show brun L n (bpass s.sm s L) = s; rw [h]; exact ih h
/-- Sums in reach: after k rounds. -/
def RB (k : Nat) (f : Nat → Int) : Prop := ∀ x, x < 8 → -(1000 * (k : Int)) ≤ f x ∧ f x ≤ far
theorem RB.mono {k m : Nat} {f : Nat → Int} (h : RB k f) (hm : k ≤ m) : RB m f := fun x hx => ⟨by have := (h x hx).1; omega, (h x hx).2⟩
theorem RB.start {a : Nat} : RB 0 (BS0 a).sm := fun x _ => by
  show -(1000 * ((0 : Nat) : Int)) ≤ (if x = a then (0 : Int) else far) ∧ (if x = a then (0 : Int) else far) ≤ far
  unfold far
  split <;> omega
theorem RB.step {k : Nat} {was : Nat → Int} {s : RS} (hw : RB k was) (h : RB (k + 1) s.sm) {p : Nat × Bd} (hp : p.2.ok) : RB (k + 1) (bstep was s p).sm := fun x hx => by
  unfold bstep
  split
  · rename_i hc
    obtain ⟨⟨f0, f8⟩, ⟨t0, t8⟩, m0, m1⟩ := hp
    have h1 := hw p.2.f.toNat (by omega)
    have h2 := h p.2.t.toNat (by omega)
    have h3 := h x hx
    simp only [upd1]
    split
    · exact ⟨by omega, by omega⟩
    · exact h3
  · exact h x hx
theorem RB.pass {k : Nat} {was : Nat → Int} (hw : RB k was) : ∀ (M : List (Nat × Bd)) (s : RS), RB (k + 1) s.sm → (∀ p ∈ M, p.2.ok) → RB (k + 1) (bpass was s M).sm := by
  intro M
  induction M with
  | nil => intro s h _; exact h
  | cons p M ih => intro s h hok; exact ih (bstep was s p) (hw.step h (hok p (by simp))) (fun q hq => hok q (by simp [hq]))
theorem numFrom_app : ∀ (l m : List Bd) (n : Nat), numFrom n (l ++ m) = numFrom n l ++ numFrom (n + l.length) m := by
  intro l
  induction l with
  | nil => intro m n; rfl
  | cons b l ih =>
    intro m n
    simp only [List.cons_append, numFrom, List.length_cons]
    rw [ih, show n + (l.length + 1) = n + 1 + l.length by omega]
theorem clNum_all : ∀ (l : List Cl) (n : Nat), clNum allT n l = numFrom n (l.flatMap (·.bs)) := by
  intro l
  induction l with
  | nil => intro n; rfl
  | cons x l ih =>
    intro n
    simp only [clNum, allT, if_true, List.flatMap_cons, numFrom_app]
    rw [← ih]
theorem belNum_all (c : Cs) : belNum allT c = numFrom 0 c.all := by
  unfold belNum Cs.all
  rw [numFrom_app, clNum_all, Nat.zero_add]
theorem numFrom_length (l : List Bd) (n : Nat) : (numFrom n l).length = l.length := by
  have h := congrArg List.length (numFrom_snd' l n)
  rw [List.length_map] at h
  exact h
theorem numFrom_mem {l : List Bd} {n : Nat} {p : Nat × Bd} (h : p ∈ numFrom n l) : p.2 ∈ l := by
  rw [← numFrom_snd' l n]
  exact List.mem_map.2 ⟨p, h, rfl⟩
theorem numFrom_lt : ∀ {l : List Bd} {n : Nat} {p : Nat × Bd}, p ∈ numFrom n l → n ≤ p.1 ∧ p.1 < n + l.length := by
  intro l
  induction l with
  | nil => intro n p h; cases h
  | cons b l ih =>
    intro n p h
    rcases List.mem_cons.1 h with rfl | h
    · simp
    · have := ih h
      simp only [List.length_cons]
      omega
end Go.Proofs.Ytgnjhaomlbkgcaa

namespace Go.Proofs.Ytgnjhaomlbkgcaa
open Go Go.RowKit Go.Shelf Go.Maps
set_option linter.unusedVariables false
set_option linter.unusedSimpArgs false
attribute [local go_sem] Oper.semAt_some

theorem row_own {β : Type} {BB M : Nat} {S : Nat → Prop} {w9 : World} {st : List β → RS} {n a : Nat} (hM : M < w9.heap.size) : OwnFrom w9.heap.size (fun pre W' => A8 W' BB (st pre).sm ∧ MapArc W' M (n + pre.length) a (st pre).by_ ∧ BelS S w9 W') := fun s X Y row hs hg hr =>
  ⟨A8.own _ BB (fun pre : List β => (st pre).sm) s X Y row hs.1 hg hr, hs.2.1.kept hg (fun e => by have := (hr M e.symm).1; omega),
    ⟨hs.2.2.1.grown hg (Nat.zero_le _) (fun _ _ => Nat.zero_le _), fun k hk hD => (hg.block k (Nat.lt_of_lt_of_le hk hs.2.2.size) (fun e => by have := (hr k e.symm).1; omega)).trans (hs.2.2.2 k hk hD)⟩⟩
theorem wpListIn_eql_op {F : Fence} {n : Nat} {P : Program} {ops : Array Oper} {rest : List Oper} {o : Oper} {a : Act} {w : World} {Q : Exit → Act → World → Prop} (hgd : o.guard = none) (t ty : TypeId) (x y : Operand) (ho : o.op = .binOp .eql t x y ty)
    (xs ys : Array Value) (hx : a.eval x = .agg xs) (hy : a.eval y = .agg ys) (b : Bool) (hg : P.eqGuardType P.depth t = false) (he : (Op.equalIn 10000 t (.agg xs) (.agg ys)).run P w = .ok b w)
    (hn : wpListIn F n P ops Q rest (a.put o.dst (.bool b)) w) : wpListIn F n P ops Q (o :: rest) a w := by
  refine wpListIn_plain hgd fun K hK => ?_
  unfold Oper.wpIn
  refine ⟨?_, ?_⟩
  · simp [Oper.about, ho]
  · rw [Oper.semAt_plain F _ _ (by rw [ho]; intro c hc'; cases hc'), run_eql_op w a.eval t ty x y ho xs ys hx hy b hg he]
    exact hK _ _ hn
theorem MapArc.cel {w w' : World} {BB M n a : Nat} {b : Nat → Nat} (h : MapArc w M n a b) (hb : BelS (fun k => k = BB ∨ k = M) w w') : Cel BB w w' := by
  obtain ⟨D, ⟨es, cl, hm, _⟩, _⟩ := h
  refine ⟨hb.size, fun p u hp hu => hb.cell hu (fun e => e.elim hp (fun e2 => ?_))⟩
  simp [World.cell?, e2, hm] at hu
theorem Marks.belS {B : Nat} {S : Nat → Prop} {ds : List Deferred} {W W' : World} (h : Marks B ds W) (hb : BelS S W W') (hS : ∀ k, S k → W.heap[k]? ≠ some (.deferred (some []))) : Marks B ds W' := by
  obtain ⟨rs, e, hn, hr⟩ := h
  exact ⟨rs, e, hn, fun r hm => ⟨(hr r hm).1, hb.heap (hr r hm).2 fun q => hS r q (hr r hm).2⟩⟩
theorem Marks.consS {B : Nat} {S : Nat → Prop} {ds : List Deferred} {W0 W : World} (h0 : Marks B ds W0) (hb : BelS S W0 W) (hS : ∀ k, S k → W0.heap[k]? ≠ some (.deferred (some []))) {r : Nat} (hr : W.heap[r]? = some (.deferred (some []))) (hlt : W0.heap.size ≤ r) (hB : B ≤ W0.heap.size) :
    Marks B ({ target := .collected r, args := #[] } :: ds) W := by
  obtain ⟨rs, e, hn, hh⟩ := h0
  refine ⟨r :: rs, by rw [e]; rfl, List.nodup_cons.2 ⟨fun hm => ?_, hn⟩, fun x hx => ?_⟩
  · have := (Array.getElem?_eq_some_iff.1 (hh r hm).2).1
    omega
  · rcases List.mem_cons.1 hx with rfl | hx
    · exact ⟨by omega, hr⟩
    · exact ⟨(hh x hx).1, hb.heap (hh x hx).2 fun q => hS x q (hh x hx).2⟩
theorem MapArc.nodef {w : World} {M n a : Nat} {b : Nat → Nat} (h : MapArc w M n a b) : w.heap[M]? ≠ some (.deferred (some [])) := by
  obtain ⟨D, ⟨es, cl, hm, _⟩, _⟩ := h
  rw [hm]; intro e; cases e
theorem A8.nodef {w : World} {B : Nat} {f : Nat → Int} (h : A8 w B f) : w.heap[B]? ≠ some (.deferred (some [])) := by
  unfold A8 at h
  rw [h]; intro e; cases e
def outC (f : Nat → Int) (i : Nat) : List Value := ((List.range i).map f).map (Value.int .i64)
theorem outC_succ (f : Nat → Int) (i : Nat) : outC f (i + 1) = outC f i ++ [.int .i64 (f i)] := by unfold outC; rw [List.range_succ, List.map_append, List.map_append]; rfl
theorem outC_len (f : Nat → Int) (i : Nat) : (outC f i).length = i := by simp [outC]
theorem kc_of_cells {W W' : World} (hc : ∀ (k : Nat) (cs : Array Value) (t : TypeId) (m : Nat × Nat), W.heap[k]? = some (.cells cs t m) → W'.heap[k]? = some (.cells cs t m)) : Kc W W' := fun p u hp => by
  unfold World.cell? at hp ⊢
  split at hp
  · rename_i cs t m hh
    rw [hc _ _ _ _ hh]
    exact hp
  · cases hp
set_option maxRecDepth 100000 in
theorem reverse_nil (w : World) : Calls Try.prog 89 #[.slice none 0 0] w fun e w' => (∃ v, e = .returned v) ∧ w' = w := by
  go_enter Try.func89, Try.ntmps89
  go_wp2
  go_loopw [2, 3] (fun i j wr => i = .int .i64 0 ∧ j = .int .i64 (-1) ∧ wr = w) (fun _ _ _ => 0)
  case atStart => exact ⟨rfl, rfl, rfl⟩
  case round =>
    obtain ⟨rfl, rfl, rfl⟩ := hrel
    go_wp2
    go_end0
    exact ⟨⟨_, rfl⟩, rfl⟩
theorem zeroInt (w : World) : (zeroValue 3).run Try.prog w = .ok (.int .i64 0) w := by kernel_rfl
theorem iter_in {f : Nat → Nat} {b : Nat} (i : Nat) (z : Nat) (h : iterN f i b = z) : iterN f (i + 1) b = f z := by rw [iterN_succ, h]
theorem l8_one (f : Nat → Int) : ((l8 f).map (Value.int .i64)).toArray.all (·.oneCell') = true := by
  rw [Array.all_eq_true_iff_forall_mem]
  intro u hu
  simp at hu
  obtain ⟨x, _, rfl⟩ := hu
  rfl
def fillTo (k : Nat) (x : Nat) : Int := if x < k then far else 0

set_option maxRecDepth 100000 in
set_option maxHeartbeats 4000000 in
theorem row_any (v : Value) (c : Cs) (G : Mat) (a b : Nat) (w : World) (hd : DeskR w v c G) (h0 : checkC c = 0) (ha : (a : Int) < c.ev) (hb : (b : Int) < c.ev) (hs : c.sized) (gap : Int) (hok : RowOK c.all c.ev.toNat a b gap) :
    Calls Try.prog 101 #[v, .int .i64 a, .int .i64 b] w fun e w' => ∃ A k, e = .returned (.slice A (rowL c.all c.ev.toNat a b).length k) ∧ Ints w' A (rowL c.all c.ev.toNat a b) ∧ Ext w w' := by
  obtain ⟨D, A1, c1, A2, c2, rfl, hD, hB, hC⟩ := hd
  have hev := checkC_ev h0
  have H0 := hid h0
  have HOK := hid hok
  have h52 := checkC_52 h0
  have hLok : Hid (∀ b ∈ c.all, b.ok) := checkC_bd h0
  obtain ⟨z1, z2⟩ := sized_all h0
  obtain ⟨N, hN⟩ : ∃ N : Nat, c.ev.toNat = N := ⟨_, rfl⟩
  have hNe : (N : Int) = c.ev := by omega
  have ha8 : a < 8 := by omega
  have hb8 : b < 8 := by omega
  rw [hN] at HOK ⊢
  clear hok h0
  have hmm := @run_makeMap Try.prog
  have FX : Hid (∀ w', Ext w w' → w'.cell? ⟨D, 0, none⟩ = some (.int .i64 c.ev) ∧ w'.cell? ⟨D, 1, none⟩ = some (.slice A1 c.bs.length c1) ∧ w'.cell? ⟨D, 2, none⟩ = some (.int .i64 c.wi) ∧ w'.cell? ⟨D, 3, none⟩ = some (.slice A2 c.cl.length c2)) := fun w' h => ⟨h.cell hD.ev, h.cell hD.bs, h.cell hD.wi, h.cell hD.cl⟩
  have hX0 : Ext w (((w.alloc (.cells #[.int .i64 a] 3)).alloc (.map #[] 0)).alloc (.cells #[.map (some (w.heap.size + 1))] 171)) := ((Ext.refl w).alloc _ |>.alloc _).alloc _
  obtain ⟨q0, q1, q2, q3⟩ := FX.out _ hX0
  refine callsIn_wide (n := 9).1 ?_
  refine callsIn_of_wp_marks Try.func101 rfl trivial ?_ rfl
  simp only [Try.ntmps101, List.size_toArray, List.length_cons, List.length_nil, Nat.reduceAdd, Nat.reduceSub, Array.replicate_succ, Array.replicate_zero, List.push_toArray, List.append_toArray, List.nil_append, List.cons_append]
  gi_wp2_with (first
    | (refine ⟨trivial, (callsIn_wide.2 (all_calls _ c _ ⟨A1, c1, A2, c2, rfl, hB.ext hX0, hC.ext hX0⟩ z1 z2)).mono ?_⟩; rintro e w1 ⟨A', c', rfl, ho, hx1⟩))
  obtain ⟨Wm, hWm⟩ : ∃ Wm, ((w.alloc (.cells #[.int .i64 a] 3)).alloc (.map #[] 0)).alloc (.cells #[.map (some (w.heap.size + 1))] 171) = Wm := ⟨_, rfl⟩
  have hbm : Wm.cell? ⟨w.heap.size, 0, none⟩ = some (.int .i64 a) := by rw [← hWm]; simp [go_sem]
  have hpm : Wm.cell? ⟨w.heap.size + 1 + 1, 0, none⟩ = some (.map (some (w.heap.size + 1))) := by rw [← hWm]; simp [go_sem]
  have hMm : MapArc Wm (w.heap.size + 1) 0 a (fun _ => 0) := by
    rw [← hWm]
    have h := (MapArc.start (w.alloc (.cells #[.int .i64 a] 3)) a).ext (Ext.alloc (Ext.refl _) (.cells #[.map (some (w.heap.size + 1))] 171))
    simpa using h
  have hzm : Wm.heap.size = w.heap.size + 3 := by rw [← hWm]; simp
  rw [hWm] at hX0 q0 q1 q2 q3 ho hx1
  clear hWm q0 q1 q2 q3 hmm
  obtain ⟨W0, hW0⟩ : ∃ W0, w1.alloc (.cells #[.int .i64 0, .int .i64 0, .int .i64 0, .int .i64 0, .int .i64 0, .int .i64 0, .int .i64 0, .int .i64 0] 56) = W0 := ⟨_, rfl⟩
  have hX1 : Ext w1 W0 := by rw [← hW0]; exact Ext.alloc (Ext.refl _) _
  have hXm : Ext Wm W0 := hx1.trans hX1
  have hXw : Ext w W0 := hX0.trans hXm
  have hA0 : A8 W0 w1.heap.size (fillTo 0) := by
    unfold A8
    rw [← hW0]
    exact World.alloc_heap_new _ _
  have hz1 := hx1.size
  have hz0 : W0.heap.size = w1.heap.size + 1 := by rw [← hW0]; simp
  have hb0 := hXm.cell hbm
  have hp0 := hXm.cell hpm
  have hM0 := hMm.ext hXm
  have hBa : Bounds W0 A' c.all := (Rd.of_own ho).ext hX1
  have HAB : Hid (∀ p, A' = some p → Wm.heap.size ≤ p.block ∧ p.block < w1.heap.size) := own_block_lt ho
  rw [hzm] at HAB
  rw [hW0]
  clear hW0 ho hbm hpm hMm
  obtain ⟨BB, hBB⟩ : ∃ BB, w1.heap.size = BB := ⟨_, rfl⟩
  have hBw : w.heap.size + 3 ≤ BB := by omega
  have hDw : D < w.heap.size := hD.lt
  rw [hBB] at hA0 hz0 HAB ⊢
  clear hBB hx1 hX1 hz1
  have NS : ∀ {k : Nat}, k ≠ BB → k ≠ w.heap.size + 1 → ¬ (k = BB ∨ k = w.heap.size + 1) := fun h1 h2 h => h.elim h1 h2
  have FX0 : Hid (∀ w', BelS (fun k => k = BB ∨ k = w.heap.size + 1) W0 w' → w'.cell? ⟨w.heap.size, 0, none⟩ = some (.int .i64 a) ∧ w'.cell? ⟨w.heap.size + 1 + 1, 0, none⟩ = some (.map (some (w.heap.size + 1))) ∧ w'.cell? ⟨D, 0, none⟩ = some (.int .i64 c.ev) ∧ w'.cell? ⟨D, 1, none⟩ = some (.slice A1 c.bs.length c1) ∧ w'.cell? ⟨D, 2, none⟩ = some (.int .i64 c.wi) ∧ w'.cell? ⟨D, 3, none⟩ = some (.slice A2 c.cl.length c2)) := fun w' h => by
    obtain ⟨d0, d1, d2, d3⟩ := FX.out _ hXw
    exact ⟨h.cell hb0 (by simp; omega), h.cell hp0 (by simp; omega), h.cell d0 (by simp; omega), h.cell d1 (by simp; omega), h.cell d2 (by simp; omega), h.cell d3 (by simp; omega)⟩
  clear hb0 hp0 FX
  gi_loopw [23] (fun i wr => ∃ (k : Nat), k ≤ 8 ∧ i = .int .i64 k ∧ A8 wr BB (fillTo k) ∧ BelS (fun k => k = BB ∨ k = w.heap.size + 1) W0 wr ∧ MapArc wr (w.heap.size + 1) 0 a (fun _ => 0)) (fun i _ => 8 - (intOf i).toNat)
  case atStart => exact ⟨0, Nat.zero_le _, rfl, hA0, BelS.refl _ _, hM0⟩
  case round =>
    obtain ⟨k, hk, rfl, hA, hbl, hM⟩ := hrel
    by_cases hlt : k < 8
    · have hlt' : (k : Int) < 8 := by omega
      have hcell := hA.at_ hlt
      have hfz := hA.frozen k
      gi_wp2
      go_roundw
      case rel => exact ⟨k + 1, by omega, by go_num, (hA.set k far).congr fun x hx => by (unfold fillTo upd1; by_cases e : x = k <;> (try subst e) <;> simp <;> omega), hbl.setCell _ _ (.inl rfl), hM.setCell _ _ (by simp; omega)⟩
      case measure => simp [intOf]; omega
    · have hlt' : ¬ (k : Int) < 8 := by omega
      obtain ⟨d0, d1, d2, d3, d4, d5⟩ := FX0.out _ hbl
      have hA := hA.congr (g := fun _ => far) fun x hx => by unfold fillTo; rw [if_pos (by omega)]
      have hcell := hA.at_ ha8
      have hfz := hA.frozen a
      have ha8' : (a : Int) < 8 := by omega
      obtain ⟨g0, g1, g2, g3, g4, g5⟩ := FX0.out _ (hbl.setCell ⟨BB, a, none⟩ (.int .i64 0) (.inl rfl))
      gi_wp2
      obtain ⟨W1, hW1⟩ : ∃ W1, wr.setCell ⟨BB, a, none⟩ (.int .i64 0) = W1 := ⟨_, rfl⟩
      have hA1 : A8 W1 BB (BS0 a).sm := by
        rw [← hW1]
        exact (hA.set a 0).congr fun x hx => by unfold upd1 BS0; by_cases e : x = a <;> simp [e]
      have hM1 : MapArc W1 (w.heap.size + 1) (0 * 52) a (BS0 a).by_ := by rw [← hW1]; exact hM.setCell _ _ (by simp; omega)
      have hb1 : BelS (fun k => k = BB ∨ k = w.heap.size + 1) W0 W1 := by rw [← hW1]; exact hbl.setCell _ _ (.inl rfl)
      rw [hW1]
      clear hW1 g0 g1 g2 g3 g4 g5 d0 d1 d2 d3 d4 d5 hcell hfz hA hM hbl hM0 hA0
      have hs1 : c.all.length ≤ 9223372036854775807 := by omega
      obtain ⟨L, hL⟩ : ∃ L, belNum allT c = L := ⟨_, rfl⟩
      have hLn : L = numFrom 0 c.all := by rw [← hL]; exact belNum_all c
      have hLl : L.length ≤ 52 := by rw [hLn, numFrom_length]; exact h52
      have HLk : Hid (∀ p ∈ L, p.2.ok) := fun p hp => hLok.out p.2 (by rw [hLn] at hp; exact numFrom_mem hp)
      refine wpIn_loop (fun act W => ∃ (kk : Nat) (y11 y37 y38 y39 y40 y41 y42 y43 y44 y82 y83 y84 y85 : Value) (ds : List Deferred) (s : RS), act = { tmps := (List.toArray ((.pointer (some ⟨D, 0, none⟩)) :: (.int .i64 (a : Int)) :: (.int .i64 (b : Int)) :: undef :: (.pointer (some ⟨w.heap.size, 0, none⟩)) :: undef :: (.slice none 0 0) :: (.pointer (some ⟨w.heap.size + 1 + 1, 0, none⟩)) :: (.slice A' c.all.length c') :: (.pointer (some ⟨BB, 0, none⟩)) :: u10 :: y11 :: undef :: undef :: undef :: undef :: (.map (some (w.heap.size + 1))) :: (.pointer (some ⟨D, 0, none⟩)) :: (.pointer (some ⟨D, 0, none⟩)) :: (.pointer (some ⟨D, 0, none⟩)) :: (.agg #[.int .i64 c.ev, .slice A1 c.bs.length c1, .int .i64 c.wi, .slice A2 c.cl.length c2]) :: (.slice A' c.all.length c') :: (.agg #[.int .i64 0, .int .i64 0, .int .i64 0, .int .i64 0, .int .i64 0, .int .i64 0, .int .i64 0, .int .i64 0]) :: (.int .i64 (k : Int)) :: (.bool false) :: u25 :: u26 :: u27 :: u28 :: (.int .i64 (a : Int)) :: (.pointer (some ⟨BB, a, none⟩)) :: (.pointer (some ⟨D, 0, none⟩)) :: (.pointer (some ⟨D, 0, none⟩)) :: (.pointer (some ⟨D, 0, none⟩)) :: (.pointer (some ⟨D, 0, none⟩)) :: (.int .i64 c.ev) :: (.int .i64 (kk : Int)) :: y37 :: y38 :: y39 :: y40 :: y41 :: y42 :: y43 :: y44 :: undef :: undef :: undef :: undef :: undef :: undef :: undef :: undef :: undef :: undef :: undef :: undef :: undef :: undef :: undef :: undef :: undef :: undef :: undef :: undef :: undef :: undef :: undef :: undef :: undef :: undef :: undef :: undef :: undef :: undef :: undef :: undef :: undef :: undef :: undef :: undef :: undef :: y82 :: y83 :: y84 :: y85 :: undef :: undef :: undef :: undef :: undef :: undef :: undef :: undef :: undef :: undef :: undef :: undef :: undef :: undef :: undef :: undef :: undef :: undef :: undef :: undef :: undef :: undef :: undef :: undef :: undef :: [])), defers := ds } ∧ kk ≤ N ∧ A8 W BB s.sm ∧ MapArc W (w.heap.size + 1) (kk * 52) a s.by_ ∧ BelS (fun k => k = BB ∨ k = w.heap.size + 1) W0 W ∧ Marks w.heap.size ds W ∧ RB kk s.sm ∧ Hid (brun L (N - kk) s = brun L N (BS0 a))) (fun act _ => N - (intOf (act.tmps.getD 36 undef)).toNat) ?h0 ?hr
      case h0 => exact ⟨0, _, _, _, _, _, _, _, _, _, _, _, _, _, [], BS0 a, rfl, Nat.zero_le _, hA1, hM1, hb1, Marks.nil _ _, RB.start, rfl⟩
      case hr =>
        rintro _ W ⟨kk, y11, y37, y38, y39, y40, y41, y42, y43, y44, y82, y83, y84, y85, ds, s, rfl, hkk, hA, hM, hbl, hm, hrb, HR⟩
        dsimp only
        have hDs := FX0.out _ hbl
        obtain ⟨e0, e1, e2, e3, e4, e5⟩ := hDs
        have hAlt := hA.lt
        have hMlt := hM.lt
        by_cases hlt : kk < N
        · have hlt' : (kk : Int) < c.ev := by omega
          gi_wp2_with (first
            | (refine wpListIn_load_cells rfl 56 (.tmp 9) rfl ⟨BB, 0, none⟩ rfl ((l8 s.sm).map (Value.int .i64)) (.array 8 3) hA.cells Try.underlying56 rfl (by rw [info8]; simp [l8_len]) ?_)
            | (refine wpListIn_store_new rfl 56 (.tmp 11) (.tmp 38) rfl W _ _ rfl rfl rfl (by rw [info8]; simp [l8_len]) (by simp [l8_len]) (l8_one s.sm) ?_))
          gi_wp2
          obtain ⟨V, hV⟩ : ∃ V, W.alloc (.cells ((l8 s.sm).map (Value.int .i64)).toArray 56) = V := ⟨_, rfl⟩
          have hxV : Ext W V := by rw [← hV]; exact Ext.alloc (Ext.refl _) _
          have hAw : A8 V W.heap.size s.sm := by unfold A8; rw [← hV]; exact World.alloc_heap_new _ _
          have hzV : V.heap.size = W.heap.size + 1 := by rw [← hV]; simp
          rw [hV]
          clear hV
          have hA' := hA
          unfold A8 at hA'
          have hA := hA.ext hxV
          have hM := hM.ext hxV
          have hbl := hbl.trans hxV.belS
          have hm := hm.bel (D := BB) hxV.bel hA'
          have FV : Hid (∀ w', Ext V w' → w'.cell? ⟨D, 0, none⟩ = some (.int .i64 c.ev) ∧ w'.cell? ⟨D, 1, none⟩ = some (.slice A1 c.bs.length c1) ∧ w'.cell? ⟨D, 2, none⟩ = some (.int .i64 c.wi) ∧ w'.cell? ⟨D, 3, none⟩ = some (.slice A2 c.cl.length c2)) := fun w' h => ⟨h.cell (hxV.cell e2), h.cell (hxV.cell e3), h.cell (hxV.cell e4), h.cell (hxV.cell e5)⟩
          clear e0 e1 e2 e3 e4 e5
          refine wpIn_wide.2 ?_
          refine wp_region_shut Ext (fun w' => Ext V w') (fun | 4 => some (fun v _ => v = .agg #[.func (.func 148) #[] #[]]) | 5 => some (fun v w' => ∃ P1 P2, v = .func (.func 149) #[] #[.pointer (some ⟨P1, 0, none⟩), .pointer (some ⟨P2, 0, none⟩)] ∧ V.heap.size ≤ P1 ∧ V.heap.size ≤ P2 ∧ w'.cell? ⟨P1, 1, none⟩ = some (.slice A1 c.bs.length c1) ∧ w'.cell? ⟨P1, 3, none⟩ = some (.slice A2 c.cl.length c2) ∧ w'.cell? ⟨P2, 0, none⟩ = some (.func (.func 148) #[] #[])) | _ => none) (by kernel_rfl) (by kernel_rfl) (fun _ _ h k => h.trans k) ?hTa (Ext.drew (Ext.refl V)) ?_
          case hTa =>
            intro i R hR
            match i, hR with
            | 4, hR => cases hR; exact fun _ _ _ h _ => h
            | 5, hR => cases hR; exact fun _ _ _ ⟨P1, P2, e1, e2, e3, e4, e5, e6⟩ k => ⟨P1, P2, e1, e2, e3, k.cell e4, k.cell e5, k.cell e6⟩
          refine wM_val ?ua0 rfl rfl Ext.refl (fun w2 hD9 => ?ha0) (fun pha0 => ?na0)
          case ha0 =>
            obtain ⟨d2, d3, d4, d5⟩ := FV.out w2 hD9.1
            go_simp; rfl
          simp only [Act.put, List.setIfInBounds_toArray, List.set_cons_succ, List.set_cons_zero, Nat.reduceAdd]
          refine wM_val ?ua1 rfl rfl Ext.refl (fun w2 hD9 => ?ha1) (fun pha1 => ?na1)
          case ha1 =>
            obtain ⟨d2, d3, d4, d5⟩ := FV.out w2 hD9.1
            go_simp; rfl
          simp only [Act.put, List.setIfInBounds_toArray, List.set_cons_succ, List.set_cons_zero, Nat.reduceAdd]
          refine wM_val ?ua2 rfl rfl Ext.refl (fun w2 hD9 => ?ha2) (fun pha2 => ?na2)
          case ha2 =>
            obtain ⟨d2, d3, d4, d5⟩ := FV.out w2 hD9.1
            go_simp; rfl
          simp only [Act.put, List.setIfInBounds_toArray, List.set_cons_succ, List.set_cons_zero, Nat.reduceAdd]
          refine wM_val ?ua3 rfl rfl Ext.refl (fun w2 hD9 => ?ha3) (fun pha3 => ?na3)
          case ha3 =>
            obtain ⟨d2, d3, d4, d5⟩ := FV.out w2 hD9.1
            go_simp; rfl
          simp only [Act.put, List.setIfInBounds_toArray, List.set_cons_succ, List.set_cons_zero, Nat.reduceAdd]
          refine wM_op _ rfl rfl (opens_call ?fa4 ?ga4 (fun w2 hD9 => ?ha4) (fun w2 hD9 => ?ca4)) (fun v4 hv4 => ?na4)
          case ha4 => go_simp; constructor <;> rfl
          case ca4 =>
            refine (everyone_any w2).mono ?_
            rintro e w3 ⟨rfl, hb3⟩
            exact ⟨_, rfl, hb3, rfl⟩
          obtain ⟨_, _, _, rfl⟩ := hv4
          simp only [Act.put, List.setIfInBounds_toArray, List.set_cons_succ, List.set_cons_zero, Nat.reduceAdd]
          refine wM_op _ rfl rfl (opens_call ?fa5 ?ga5 (fun w2 hD9 => ?ha5) (fun w2 hD9 => ?ca5)) (fun v5 hv5 => ?na5)
          case ha5 => go_simp; constructor <;> rfl
          case ca5 =>
            refine (believed_any _ _ (.func (.func 148) #[] #[]) c w2 rfl ⟨_, _, _, rfl⟩ A1 A2 c1 c2 rfl).mono ?_
            rintro e w3 ⟨rfl, rfl⟩
            exact ⟨_, rfl, Ext.alloc (Ext.alloc (Ext.refl _) _) _, w2.heap.size, w2.heap.size + 1, rfl, hD9.1.size, Nat.le_succ_of_le hD9.1.size, by simp [go_sem], by simp [go_sem], by simp [go_sem]⟩
          obtain ⟨_, -, -, P1, P2, rfl, -⟩ := hv5
          simp only [Act.put, List.setIfInBounds_toArray, List.set_cons_succ, List.set_cons_zero, Nat.reduceAdd]
          refine wM_nil ?_
          intro w9 hw9 hF9
          obtain ⟨-, Q1, Q2, e9, f1, f2, f3, f4, f5⟩ := hF9 5
          cases e9
          clear hF9 FV
          have hsz9 := hw9.size
          have hA0' := hA
          unfold A8 at hA0'
          have hA := hA.ext hw9
          have hAw := hAw.ext hw9
          have hM := hM.ext hw9
          have hbl := hbl.trans hw9.belS
          have hm := hm.bel (D := BB) hw9.bel hA0'
          have hxw9 : Ext w w9 := BelS.ext (BelS.trans hXw.belS hbl) (fun k hk => NS (by omega) (by omega))
          have hBt := hA.lt
          gi_wp2
          refine wpIn_rangeFunc_ownH (F := Fence.wide) (n := 9) rfl (by omega) (gf := 149) (lb := #[.pointer (some ⟨P1, 0, none⟩), .pointer (some ⟨P2, 0, none⟩)]) rfl trivial (enters_of Try.func149 (by kernel_rfl) rfl)
            (believed_stops _ P1 P2 BB c allT (.func (.func 148) #[] #[]) w w9 A1 A2 c1 c2 hB hC (everyone_fn w) (by omega) (by omega) (by omega) hs1 hs.2.1 hxw9.kc (by omega) f3 f4 f5) Cel.trans cel_b (Below.refl _ _) (fun _ => rfl)
            (fun pre W' => A8 W' BB (bpass s.sm s (pre.map (·.1))).sm ∧ MapArc W' (w.heap.size + 1) (kk * 52 + pre.length) a (bpass s.sm s (pre.map (·.1))).by_ ∧ BelS (fun k => k = BB ∨ k = w.heap.size + 1) w9 W') (fun _ _ _ => False)
            (row_own (by omega)) (fun _ _ _ _ _ hs _ _ => hs) ⟨hA, hM, BelS.refl _ _⟩
            (fun x a' W' => ∃ Bx, w9.heap.size ≤ Bx ∧ BdBox W' Bx x.1.2 ∧ a' = { tmps := (List.toArray ((.pointer (some ⟨D, 0, none⟩)) :: (.int .i64 (a : Int)) :: (.int .i64 (b : Int)) :: undef :: (.pointer (some ⟨w.heap.size, 0, none⟩)) :: undef :: (.slice none 0 0) :: (.pointer (some ⟨w.heap.size + 1 + 1, 0, none⟩)) :: (.slice A' c.all.length c') :: (.pointer (some ⟨BB, 0, none⟩)) :: u10 :: (.pointer (some ⟨W.heap.size, 0, none⟩)) :: (.int .i64 (x.1.1 : Int)) :: (.pointer (some ⟨Bx, 0, none⟩)) :: undef :: undef :: (.map (some (w.heap.size + 1))) :: (.pointer (some ⟨D, 0, none⟩)) :: (.pointer (some ⟨D, 0, none⟩)) :: (.pointer (some ⟨D, 0, none⟩)) :: (.agg #[.int .i64 c.ev, .slice A1 c.bs.length c1, .int .i64 c.wi, .slice A2 c.cl.length c2]) :: (.slice A' c.all.length c') :: (.agg #[.int .i64 0, .int .i64 0, .int .i64 0, .int .i64 0, .int .i64 0, .int .i64 0, .int .i64 0, .int .i64 0]) :: (.int .i64 (k : Int)) :: (.bool false) :: u25 :: u26 :: u27 :: u28 :: (.int .i64 (a : Int)) :: (.pointer (some ⟨BB, a, none⟩)) :: (.pointer (some ⟨D, 0, none⟩)) :: (.pointer (some ⟨D, 0, none⟩)) :: (.pointer (some ⟨D, 0, none⟩)) :: (.pointer (some ⟨D, 0, none⟩)) :: (.int .i64 c.ev) :: (.int .i64 (kk : Int)) :: (.bool true) :: (.agg ((l8 s.sm).map (Value.int .i64)).toArray) :: (.pointer (some ⟨D, 0, none⟩)) :: (.pointer (some ⟨D, 0, none⟩)) :: (.pointer (some ⟨D, 0, none⟩)) :: (.agg #[.int .i64 c.ev, .slice A1 c.bs.length c1, .int .i64 c.wi, .slice A2 c.cl.length c2]) :: (.agg #[.func (.func 148) #[] #[]]) :: (.func (.func 149) #[] #[.pointer (some ⟨P1, 0, none⟩), .pointer (some ⟨P2, 0, none⟩)]) :: (.int .i64 (x.1.1 : Int)) :: x.1.2.val :: undef :: undef :: undef :: undef :: undef :: undef :: undef :: undef :: undef :: undef :: undef :: undef :: undef :: undef :: undef :: undef :: undef :: undef :: undef :: undef :: undef :: undef :: undef :: undef :: undef :: undef :: undef :: undef :: undef :: undef :: undef :: undef :: undef :: undef :: undef :: y82 :: y83 :: y84 :: y85 :: undef :: undef :: undef :: undef :: undef :: undef :: undef :: undef :: undef :: undef :: undef :: undef :: undef :: undef :: undef :: undef :: undef :: undef :: undef :: undef :: undef :: undef :: undef :: undef :: undef :: [])), defers := [] })
            (fun x a' _ X Y row hs hg hr => by obtain ⟨Bx, h1, h2, h3⟩ := hs; exact ⟨Bx, h1, own_bdbox _ Bx x.1.2 () X Y row h2 hg hr, h3⟩)
            ?assign ?body ?done ?stop
          case assign =>
            rintro lv pre x W' K ⟨i1, i2, i3⟩ hK
            have hs2 := i3.size
            obtain ⟨⟨nn, ⟨f, t, m⟩⟩, hx⟩ := x
            simp only [encNB, Bd.val] at *
            gi_wp2
            refine hK _ _ ((KeepsOthers.alloc _ _).from _) (Ext.cel (Ext.alloc (Ext.refl _) _)) ⟨i1.ext (Ext.alloc (Ext.refl _) _), i2.ext (Ext.alloc (Ext.refl _) _), i3.alloc _⟩ ⟨W'.heap.size, by omega, World.alloc_heap_new _ _, ?_⟩
            rfl
          case body =>
            rintro lv pre x a' W' hl ⟨r, hr⟩ ⟨i1, i2, i3⟩ ⟨Bx, hBx, hXb, rfl⟩ hlt2
            obtain ⟨⟨nn, ⟨f, t, m⟩⟩, hx⟩ := x
            have hxL : (nn, (⟨f, t, m⟩ : Bd)) ∈ L := by rw [← hL]; exact hx
            have hnn := numFrom_lt (by rw [hLn] at hxL; exact hxL)
            have hbk := HLk.out _ hxL
            have hpL : pre.length ≤ 52 := by have e := congrArg List.length hL; omega
            have hrp := hrb.pass (pre.map (·.1)) s (hrb.mono (Nat.le_succ _)) (fun p hp => by
              obtain ⟨y, _, rfl⟩ := List.mem_map.1 hp
              exact HLk.out _ (by rw [← hL]; exact y.2))
            obtain ⟨sp, hsp⟩ : ∃ sp, bpass s.sm s (pre.map (·.1)) = sp := ⟨_, rfl⟩
            have hsn : ∀ q : NB (belNum allT c), q.1 = (nn, ⟨f, t, m⟩) → bpass s.sm s ((pre ++ [q]).map (·.1)) = bstep s.sm sp (nn, ⟨f, t, m⟩) := fun q hq => by
              rw [List.map_append, ← hsp, ← hq]; exact bpass_snoc _ _ _ _
            rw [hsp] at i1 i2 hrp
            obtain ⟨⟨f0, f8⟩, ⟨t0, t8⟩, m0, m1⟩ := hbk
            simp only at f0 f8 t0 t8 m0 m1 hnn
            obtain ⟨fn, rfl⟩ : ∃ k : Nat, f = k := ⟨f.toNat, by omega⟩
            obtain ⟨tn, rfl⟩ : ∃ k : Nat, t = k := ⟨t.toNat, by omega⟩
            have hfn : fn < 8 := by omega
            have htn : tn < 8 := by omega
            have rz := hrb fn hfn
            have ry := hrp tn htn
            obtain ⟨e0, e1, e2⟩ := hXb.cells
            simp only at e0 e1 e2
            have qw := (hAw.belS i3 (NS (by omega) (by omega))).at_ hfn
            have qb := i1.at_ htn
            obtain ⟨z, hzz⟩ : ∃ z, s.sm fn = z := ⟨_, rfl⟩
            obtain ⟨y, hyy⟩ : ∃ y, sp.sm tn = y := ⟨_, rfl⟩
            rw [hzz] at rz qw
            rw [hyy] at ry qb
            unfold far at rz ry
            have hwr : IntKind.i64.wrap (z + m) = z + m := IntWalk.i64_in _ ⟨by omega, by omega⟩
            have FY : Hid (∀ w', Ext W' w' → w'.cell? ⟨Bx, 0, none⟩ = some (.int .i64 (fn : Int)) ∧ w'.cell? ⟨Bx, 1, none⟩ = some (.int .i64 (tn : Int)) ∧ w'.cell? ⟨Bx, 2, none⟩ = some (.int .i64 m) ∧ w'.cell? ⟨W.heap.size, fn, none⟩ = some (.int .i64 z) ∧ w'.cell? ⟨BB, tn, none⟩ = some (.int .i64 y)) :=
              fun w' h => ⟨h.cell e0, h.cell e1, h.cell e2, h.cell qw, h.cell qb⟩
            clear e0 e1 e2 qw qb
            simp only [Bd.val]
            gi_wp2
            refine wpIn_region_shut Ext (fun w' => Ext W' w') (fun _ => none) (by kernel_rfl) (by kernel_rfl) (fun _ _ h k => h.trans k) (fun i R h => by cases h) (Ext.drew (Ext.refl W')) ?_
            obtain ⟨q, hq⟩ : ∃ q : Bool, (z != 1099511627776) = q := ⟨_, rfl⟩
            have HQ := hid hq
            have HZZ := hid hzz
            clear hq
            refine wM_val ?ub0 rfl rfl Ext.refl (fun w2 hD9 => ?hb0) (fun phb0 => ?nb0)
            case hb0 =>
              obtain ⟨d0, d1, d2, dw, dx⟩ := FY.out w2 hD9.1
              go_simp; rfl
            simp only [Act.put, List.setIfInBounds_toArray, List.set_cons_succ, List.set_cons_zero, Nat.reduceAdd]
            refine wM_val ?ub1 rfl rfl Ext.refl (fun w2 hD9 => ?hb1) (fun phb1 => ?nb1)
            case hb1 =>
              obtain ⟨d0, d1, d2, dw, dx⟩ := FY.out w2 hD9.1
              go_simp; rfl
            simp only [Act.put, List.setIfInBounds_toArray, List.set_cons_succ, List.set_cons_zero, Nat.reduceAdd]
            refine wM_val ?ub2 rfl rfl Ext.refl (fun w2 hD9 => ?hb2) (fun phb2 => ?nb2)
            case hb2 =>
              obtain ⟨d0, d1, d2, dw, dx⟩ := FY.out w2 hD9.1
              go_simp; rfl
            simp only [Act.put, List.setIfInBounds_toArray, List.set_cons_succ, List.set_cons_zero, Nat.reduceAdd]
            refine wM_val ?ub3 rfl rfl Ext.refl (fun w2 hD9 => ?hb3) (fun phb3 => ?nb3)
            case hb3 =>
              obtain ⟨d0, d1, d2, dw, dx⟩ := FY.out w2 hD9.1
              go_simp; rfl
            simp only [Act.put, List.setIfInBounds_toArray, List.set_cons_succ, List.set_cons_zero, Nat.reduceAdd]
            refine wM_val (.bool q) rfl rfl Ext.refl (fun w2 hD9 => ?hb4) (fun phb4 => ?nb4)
            case hb4 =>
              obtain ⟨d0, d1, d2, dw, dx⟩ := FY.out w2 hD9.1
              go_simp
              all_goals first | (simp only [HQ.out]; done) | (rw [HQ.out]; done) | (simp [HQ.out]; done)
            simp only [Act.put, List.setIfInBounds_toArray, List.set_cons_succ, List.set_cons_zero, Nat.reduceAdd]
            refine wM_val ?ub5 rfl rfl Ext.refl (fun w2 hD9 => ?hb5) (fun phb5 => ?nb5)
            case hb5 =>
              obtain ⟨d0, d1, d2, dw, dx⟩ := FY.out w2 hD9.1
              go_simp; rfl
            simp only [Act.put, List.setIfInBounds_toArray, List.set_cons_succ, List.set_cons_zero, Nat.reduceAdd]
            cases q
            · have hfar : s.sm fn = far := by have h := HQ.out; rw [hzz]; unfold far; simpa using h
              have hst := hsn ⟨(nn, ⟨(fn : Int), (tn : Int), m⟩), hx⟩ rfl
              rw [bstep_no (fun h => h.1 hfar)] at hst
              have HST := hid hst
              clear hst hfar
              refine wM_skip rfl ?_
              simp only [Act.put, List.setIfInBounds_toArray, List.set_cons_succ, List.set_cons_zero, Nat.reduceAdd]
              refine wM_skip rfl ?_
              simp only [Act.put, List.setIfInBounds_toArray, List.set_cons_succ, List.set_cons_zero, Nat.reduceAdd]
              refine wM_skip rfl ?_
              simp only [Act.put, List.setIfInBounds_toArray, List.set_cons_succ, List.set_cons_zero, Nat.reduceAdd]
              refine wM_skip rfl ?_
              simp only [Act.put, List.setIfInBounds_toArray, List.set_cons_succ, List.set_cons_zero, Nat.reduceAdd]
              refine wM_skip rfl ?_
              simp only [Act.put, List.setIfInBounds_toArray, List.set_cons_succ, List.set_cons_zero, Nat.reduceAdd]
              refine wM_skip rfl ?_
              simp only [Act.put, List.setIfInBounds_toArray, List.set_cons_succ, List.set_cons_zero, Nat.reduceAdd]
              refine wM_skip rfl ?_
              simp only [Act.put, List.setIfInBounds_toArray, List.set_cons_succ, List.set_cons_zero, Nat.reduceAdd]
              refine wM_skip rfl ?_
              simp only [Act.put, List.setIfInBounds_toArray, List.set_cons_succ, List.set_cons_zero, Nat.reduceAdd]
              refine wM_skip rfl ?_
              simp only [Act.put, List.setIfInBounds_toArray, List.set_cons_succ, List.set_cons_zero, Nat.reduceAdd]
              refine wM_skip rfl ?_
              simp only [Act.put, List.setIfInBounds_toArray, List.set_cons_succ, List.set_cons_zero, Nat.reduceAdd]
              refine wM_skip rfl ?_
              simp only [Act.put, List.setIfInBounds_toArray, List.set_cons_succ, List.set_cons_zero, Nat.reduceAdd]
              refine wM_skip rfl ?_
              simp only [Act.put, List.setIfInBounds_toArray, List.set_cons_succ, List.set_cons_zero, Nat.reduceAdd]
              refine wM_val ?ue18 rfl rfl Ext.refl (fun w2 hD9 => ?he18) (fun phe18 => ?ne18)
              case he18 =>
                obtain ⟨d0, d1, d2, dw, dx⟩ := FY.out w2 hD9.1
                go_simp; rfl
              simp only [Act.put, List.setIfInBounds_toArray, List.set_cons_succ, List.set_cons_zero, Nat.reduceAdd]
              refine wM_nil ?_
              intro x9 hx9 hF9
              have hb9 := Ext.belS (S := fun k => k = BB ∨ k = w.heap.size + 1) hx9
              gi_wp2
              refine ⟨⟨hb9.size, fun kk o h1 hk ho => hb9.heap hk (NS (by omega) (by omega))⟩, i2.cel hb9, ?_⟩
              dsimp only
              rw [HST.out]
              exact ⟨i1.ext hx9, (i2.ext hx9).mono (by simp only [List.length_append, List.length_singleton]; omega), i3.trans hb9⟩
            · have hfar : ¬ z = far := by have h := HQ.out; unfold far; simpa using h
              refine wM_val ?uc6 rfl rfl Ext.refl (fun w2 hD9 => ?hc6) (fun phc6 => ?nc6)
              case hc6 =>
                obtain ⟨d0, d1, d2, dw, dx⟩ := FY.out w2 hD9.1
                go_simp; rfl
              simp only [Act.put, List.setIfInBounds_toArray, List.set_cons_succ, List.set_cons_zero, Nat.reduceAdd]
              refine wM_val ?uc7 rfl rfl Ext.refl (fun w2 hD9 => ?hc7) (fun phc7 => ?nc7)
              case hc7 =>
                obtain ⟨d0, d1, d2, dw, dx⟩ := FY.out w2 hD9.1
                go_simp; rfl
              simp only [Act.put, List.setIfInBounds_toArray, List.set_cons_succ, List.set_cons_zero, Nat.reduceAdd]
              refine wM_val ?uc8 rfl rfl Ext.refl (fun w2 hD9 => ?hc8) (fun phc8 => ?nc8)
              case hc8 =>
                obtain ⟨d0, d1, d2, dw, dx⟩ := FY.out w2 hD9.1
                go_simp; rfl
              simp only [Act.put, List.setIfInBounds_toArray, List.set_cons_succ, List.set_cons_zero, Nat.reduceAdd]
              refine wM_val ?uc9 rfl rfl Ext.refl (fun w2 hD9 => ?hc9) (fun phc9 => ?nc9)
              case hc9 =>
                obtain ⟨d0, d1, d2, dw, dx⟩ := FY.out w2 hD9.1
                go_simp; rfl
              simp only [Act.put, List.setIfInBounds_toArray, List.set_cons_succ, List.set_cons_zero, Nat.reduceAdd]
              refine wM_val ?uc10 rfl rfl Ext.refl (fun w2 hD9 => ?hc10) (fun phc10 => ?nc10)
              case hc10 =>
                obtain ⟨d0, d1, d2, dw, dx⟩ := FY.out w2 hD9.1
                go_simp; rfl
              simp only [Act.put, List.setIfInBounds_toArray, List.set_cons_succ, List.set_cons_zero, Nat.reduceAdd]
              refine wM_val ?uc11 rfl rfl Ext.refl (fun w2 hD9 => ?hc11) (fun phc11 => ?nc11)
              case hc11 =>
                obtain ⟨d0, d1, d2, dw, dx⟩ := FY.out w2 hD9.1
                go_simp; rfl
              simp only [Act.put, List.setIfInBounds_toArray, List.set_cons_succ, List.set_cons_zero, Nat.reduceAdd]
              refine wM_val ?uc12 rfl rfl Ext.refl (fun w2 hD9 => ?hc12) (fun phc12 => ?nc12)
              case hc12 =>
                obtain ⟨d0, d1, d2, dw, dx⟩ := FY.out w2 hD9.1
                go_simp; rfl
              simp only [Act.put, List.setIfInBounds_toArray, List.set_cons_succ, List.set_cons_zero, Nat.reduceAdd]
              refine wM_val ?uc13 rfl rfl Ext.refl (fun w2 hD9 => ?hc13) (fun phc13 => ?nc13)
              case hc13 =>
                obtain ⟨d0, d1, d2, dw, dx⟩ := FY.out w2 hD9.1
                go_simp; rfl
              simp only [Act.put, List.setIfInBounds_toArray, List.set_cons_succ, List.set_cons_zero, Nat.reduceAdd]
              refine wM_val ?uc14 rfl rfl Ext.refl (fun w2 hD9 => ?hc14) (fun phc14 => ?nc14)
              case hc14 =>
                obtain ⟨d0, d1, d2, dw, dx⟩ := FY.out w2 hD9.1
                go_simp; rfl
              simp only [Act.put, List.setIfInBounds_toArray, List.set_cons_succ, List.set_cons_zero, Nat.reduceAdd]
              refine wM_val ?uc15 rfl rfl Ext.refl (fun w2 hD9 => ?hc15) (fun phc15 => ?nc15)
              case hc15 =>
                obtain ⟨d0, d1, d2, dw, dx⟩ := FY.out w2 hD9.1
                go_simp; rfl
              simp only [Act.put, List.setIfInBounds_toArray, List.set_cons_succ, List.set_cons_zero, Nat.reduceAdd]
              refine wM_val ?uc16 rfl rfl Ext.refl (fun w2 hD9 => ?hc16) (fun phc16 => ?nc16)
              case hc16 =>
                obtain ⟨d0, d1, d2, dw, dx⟩ := FY.out w2 hD9.1
                go_simp; rfl
              simp only [Act.put, List.setIfInBounds_toArray, List.set_cons_succ, List.set_cons_zero, Nat.reduceAdd]
              refine wM_val ?uc17 rfl rfl Ext.refl (fun w2 hD9 => ?hc17) (fun phc17 => ?nc17)
              case hc17 =>
                obtain ⟨d0, d1, d2, dw, dx⟩ := FY.out w2 hD9.1
                go_simp; rfl
              simp only [Act.put, List.setIfInBounds_toArray, List.set_cons_succ, List.set_cons_zero, Nat.reduceAdd]
              refine wM_val ?uc18 rfl rfl Ext.refl (fun w2 hD9 => ?hc18) (fun phc18 => ?nc18)
              case hc18 =>
                obtain ⟨d0, d1, d2, dw, dx⟩ := FY.out w2 hD9.1
                go_simp; rfl
              simp only [Act.put, List.setIfInBounds_toArray, List.set_cons_succ, List.set_cons_zero, Nat.reduceAdd]
              refine wM_nil ?_
              intro x9 hx9 hF9
              have hb9 := Ext.belS (S := fun k => k = BB ∨ k = w.heap.size + 1) hx9
              by_cases hless : z + m < y
              · have hst := hsn ⟨(nn, ⟨(fn : Int), (tn : Int), m⟩), hx⟩ rfl
                rw [bstep_yes (by rw [hzz]; exact hfar) (by rw [hzz, hyy]; exact hless), hzz] at hst
                have hld : decide (z + m < y) = true := by simpa using hless
                have HST := hid hst
                clear hst
                have hbW := hbl.trans i3
                gi_wp2
                refine wpIn_region_shut_tail Ext (fun w' => Ext x9 w') (fun _ => none) 10 (by kernel_rfl) (by kernel_rfl) (fun _ _ h k => h.trans k) (fun i R h => by cases h) (Ext.drew (Ext.refl x9)) ?_
                refine wM_val ?ud0 rfl rfl Ext.refl (fun w2 hD9 => ?hd0) (fun phd0 => ?nd0)
                case hd0 =>
                  obtain ⟨d0, d1, d2, dw, dx⟩ := FY.out w2 (hx9.trans hD9.1)
                  go_simp; rfl
                simp only [Act.put, List.setIfInBounds_toArray, List.set_cons_succ, List.set_cons_zero, Nat.reduceAdd]
                refine wM_val ?ud1 rfl rfl Ext.refl (fun w2 hD9 => ?hd1) (fun phd1 => ?nd1)
                case hd1 =>
                  obtain ⟨d0, d1, d2, dw, dx⟩ := FY.out w2 (hx9.trans hD9.1)
                  go_simp; rfl
                simp only [Act.put, List.setIfInBounds_toArray, List.set_cons_succ, List.set_cons_zero, Nat.reduceAdd]
                refine wM_val ?ud2 rfl rfl Ext.refl (fun w2 hD9 => ?hd2) (fun phd2 => ?nd2)
                case hd2 =>
                  obtain ⟨d0, d1, d2, dw, dx⟩ := FY.out w2 (hx9.trans hD9.1)
                  go_simp; rfl
                simp only [Act.put, List.setIfInBounds_toArray, List.set_cons_succ, List.set_cons_zero, Nat.reduceAdd]
                refine wM_val ?ud3 rfl rfl Ext.refl (fun w2 hD9 => ?hd3) (fun phd3 => ?nd3)
                case hd3 =>
                  obtain ⟨d0, d1, d2, dw, dx⟩ := FY.out w2 (hx9.trans hD9.1)
                  go_simp; rfl
                simp only [Act.put, List.setIfInBounds_toArray, List.set_cons_succ, List.set_cons_zero, Nat.reduceAdd]
                refine wM_val ?ud4 rfl rfl Ext.refl (fun w2 hD9 => ?hd4) (fun phd4 => ?nd4)
                case hd4 =>
                  obtain ⟨d0, d1, d2, dw, dx⟩ := FY.out w2 (hx9.trans hD9.1)
                  go_simp; rfl
                simp only [Act.put, List.setIfInBounds_toArray, List.set_cons_succ, List.set_cons_zero, Nat.reduceAdd]
                refine wM_val ?ud5 rfl rfl Ext.refl (fun w2 hD9 => ?hd5) (fun phd5 => ?nd5)
                case hd5 =>
                  obtain ⟨d0, d1, d2, dw, dx⟩ := FY.out w2 (hx9.trans hD9.1)
                  go_simp; rfl
                simp only [Act.put, List.setIfInBounds_toArray, List.set_cons_succ, List.set_cons_zero, Nat.reduceAdd]
                refine wM_val ?ud6 rfl rfl Ext.refl (fun w2 hD9 => ?hd6) (fun phd6 => ?nd6)
                case hd6 =>
                  obtain ⟨d0, d1, d2, dw, dx⟩ := FY.out w2 (hx9.trans hD9.1)
                  go_simp; rfl
                simp only [Act.put, List.setIfInBounds_toArray, List.set_cons_succ, List.set_cons_zero, Nat.reduceAdd]
                refine wM_val ?ud7 rfl rfl Ext.refl (fun w2 hD9 => ?hd7) (fun phd7 => ?nd7)
                case hd7 =>
                  obtain ⟨d0, d1, d2, dw, dx⟩ := FY.out w2 (hx9.trans hD9.1)
                  go_simp; rfl
                simp only [Act.put, List.setIfInBounds_toArray, List.set_cons_succ, List.set_cons_zero, Nat.reduceAdd]
                refine wM_val ?ud8 rfl rfl Ext.refl (fun w2 hD9 => ?hd8) (fun phd8 => ?nd8)
                case hd8 =>
                  obtain ⟨d0, d1, d2, dw, dx⟩ := FY.out w2 (hx9.trans hD9.1)
                  go_simp; rfl
                simp only [Act.put, List.setIfInBounds_toArray, List.set_cons_succ, List.set_cons_zero, Nat.reduceAdd]
                refine wM_val ?ud9 rfl rfl Ext.refl (fun w2 hD9 => ?hd9) (fun phd9 => ?nd9)
                case hd9 =>
                  obtain ⟨d0, d1, d2, dw, dx⟩ := FY.out w2 (hx9.trans hD9.1)
                  go_simp; rfl
                simp only [Act.put, List.setIfInBounds_toArray, List.set_cons_succ, List.set_cons_zero, Nat.reduceAdd]
                refine wM_nil ?_
                intro z9 hz9 hF9
                have hz9' : Ext W' z9 := hx9.trans hz9
                have i1z := i1.ext hz9'
                have cz := i1z.at_ htn
                have fz := i1z.frozen tn
                obtain ⟨W5, hW5⟩ : ∃ W5, z9.setCell ⟨BB, tn, none⟩ (.int .i64 (z + m)) = W5 := ⟨_, rfl⟩
                have hb5 : BelS (fun k => k = BB ∨ k = w.heap.size + 1) W' W5 := by rw [← hW5]; exact (Ext.belS hz9').setCell _ _ (.inl rfl)
                have i15 : A8 W5 BB (upd1 sp.sm tn (z + m)) := by rw [← hW5]; exact i1z.set tn (z + m)
                have i25 : MapArc W5 (w.heap.size + 1) (kk * 52 + pre.length) a sp.by_ := by rw [← hW5]; exact (i2.ext hz9').setCell _ _ (by simp; omega)
                obtain ⟨DM, hDM, hDA⟩ := i25
                have hDI := hDM.isMap
                obtain ⟨ga, gp, -, -, -, -⟩ := FX0.out W5 (hbW.trans hb5)
                obtain ⟨-, gt, -, -, -⟩ := FY.out z9 hz9'
                have gt5 : W5.cell? ⟨Bx, 1, none⟩ = some (.int .i64 (tn : Int)) := by rw [← hW5]; exact ((BelS.refl (fun k => k = BB) z9).setCell ⟨BB, tn, none⟩ (.int .i64 (z + m)) rfl).cell gt (by simp; omega)
                have hkey := keyOf_arc (wf8 ha8) (wf8 htn)
                have hpl := plainElem_int (H := Unit) Try.underlying3 (show (Lit.int .i64 (nn : Int)).wf = true from WalkArith.wf_i64 (by omega))
                have hmx : kk * 52 + pre.length < maxLen := by unfold maxLen; omega
                have HDM := hid hDM
                clear gt hDM
                simp only [List.drop_succ_cons, List.drop_zero]
                gi_wp2_with (gi_at_mapUpdate; refine wpListIn_mapUpdate_own _ rfl _ _ _ 171 rfl 176 3 keyArc Try.underlying171 _ (w.heap.size + 1) (kk * 52 + pre.length) DM rfl HDM.out hmx _ _ _ rfl rfl hkey _ [] hpl ?_)
                intro w6 hown6 hgrow6
                have hb6 : BelS (fun k => k = BB ∨ k = w.heap.size + 1) W' w6 := hb5.grown hgrow6 (fun k e => .inr (Option.some.inj e).symm)
                have HOWN := hid hown6
                clear hown6
                gi_wp2
                refine ⟨⟨hb6.size, fun kk o h1 hk ho => hb6.heap hk (NS (by omega) (by omega))⟩, i2.cel hb6, ?_⟩
                dsimp only
                rw [HST.out]
                refine ⟨(hgrow6.block BB i15.lt (by simp; omega)).trans i15, ⟨_, by simpa [Nat.add_assoc] using HOWN.out, map_put ha8 hDI hDA htn nn⟩, i3.trans hb6⟩
              · have hst := hsn ⟨(nn, ⟨(fn : Int), (tn : Int), m⟩), hx⟩ rfl
                rw [bstep_no (fun h => hless (by have := h.2; rw [hzz, hyy] at this; exact this))] at hst
                have hld : decide (z + m < y) = false := by simpa using hless
                gi_wp2
                refine ⟨⟨hb9.size, fun kk o h1 hk ho => hb9.heap hk (NS (by omega) (by omega))⟩, i2.cel hb9, ?_⟩
                dsimp only
                rw [hst]
                exact ⟨i1.ext hx9, (i2.ext hx9).mono (by simp only [List.length_append, List.length_singleton]; omega), i3.trans hb9⟩
          case done =>
            rintro D3 xs W3 hD3 hxs ⟨i1, i2, i3⟩ hK3
            have hLx : L = xs.map (·.1) := by rw [← hL]; exact hxs.symm
            have hxl : xs.length ≤ 52 := by have e := congrArg List.length hLx; simp only [List.length_map] at e; omega
            rw [← hLx] at i1 i2
            have hb3 := hbl.trans i3
            have hAw3 := hAw.belS i3 (NS (by omega) (by omega))
            have hm3 := hm.consS i3 (fun k hk => by
              rcases hk with rfl | rfl
              · exact hA.nodef
              · exact hM.nodef) hK3 hD3 (by omega)
            have i2' := i2.mono (m := (kk + 1) * 52) (by omega)
            obtain ⟨e0, e1, -, -, -, -⟩ := FX0.out W3 hb3
            have hrb3 : RB (kk + 1) (bpass s.sm s L).sm := hrb.pass L s (hrb.mono (Nat.le_succ _)) (fun p hp => HLk.out p hp)
            obtain ⟨S3, hS3⟩ : ∃ S3, bpass s.sm s L = S3 := ⟨_, rfl⟩
            rw [hS3] at i1 i2' hrb3
            have HR3 : Hid (brun L (N - (kk + 1)) S3 = brun L N (BS0 a)) := by
              have h := HR.out
              rw [show N - kk = (N - (kk + 1)) + 1 by omega] at h
              rw [← hS3]; exact h
            by_cases hsame : l8 s.sm = l8 S3.sm
            · have hfx : S3 = s := by
                rw [← hS3]
                refine bpass_fix L s (fun p hp => HLk.out p hp) (fun x _ => Int.le_refl _) (fun x hx8 => ?_)
                rw [hS3]; exact (l8_eq hsame hx8).symm
              have HEND : Hid (S3 = endB c.all N a) := by
                have h := HR3.out
                rw [hfx] at h hS3
                rw [brun_fix _ hS3] at h
                unfold Hid
                rw [hfx, h, hLn]; rfl
              have heq : (Op.equalIn 10000 56 (.agg ((l8 s.sm).map (Value.int .i64)).toArray) (.agg ((l8 S3.sm).map (Value.int .i64)).toArray)).run Try.prog W3 = .ok true W3 := by
                have h := run_equalIn_arr1 W3 9998 56 3 .i64 8 Try.underlying56 Try.underlying3 (by kernel_rfl) cellsInt (l8 s.sm) (l8 S3.sm) (l8_len _) (l8_len _)
                rw [h]; simp [hsame]
              have HEQ := hid heq
              clear heq hfx hS3 hsame
              gi_wp2_with (first
                | (refine wpListIn_load_cells rfl 56 (.tmp 11) rfl ⟨W.heap.size, 0, none⟩ rfl ((l8 s.sm).map (Value.int .i64)) (.array 8 3) hAw3.cells Try.underlying56 rfl (by rw [info8]; simp [l8_len]) ?_)
                | (refine wpListIn_load_cells rfl 56 (.tmp 9) rfl ⟨BB, 0, none⟩ rfl ((l8 S3.sm).map (Value.int .i64)) (.array 8 3) i1.cells Try.underlying56 rfl (by rw [info8]; simp [l8_len]) ?_)
                | (refine wpListIn_eql_op rfl 56 56 (.tmp 82) (.tmp 83) rfl _ _ rfl rfl true (by kernel_rfl) HEQ.out ?_))
              have hMx := i2'
              have hbx := hb3
              have hmx := hm3
              clear i1 i2 i2' i3 hAw3 hrb3 HR3 HR hA hM hrb e0 e1
              gi_wp2
              obtain ⟨kb, hkb, hkb1, hkb2⟩ := HOK.out.back
              obtain ⟨SE, hSE⟩ : ∃ SE, endB c.all N a = SE := ⟨_, rfl⟩
              rw [hSE] at hkb1 hkb2 HEND
              obtain ⟨pf, hpf⟩ : ∃ pf, predR c.all SE = pf := ⟨_, rfl⟩
              rw [hpf] at hkb1 hkb2
              obtain ⟨fo, hfo⟩ : ∃ fo : Nat → Int, (fun j => (SE.by_ (iterN pf j b) : Int)) = fo := ⟨_, rfl⟩
              have HFO : Hid (∀ j, fo j = (SE.by_ (iterN pf j b) : Int)) := fun j => by rw [← hfo]
              have HRB : Hid ((List.range kb).map fo = rowBack c.all N a b) := by
                rw [← hfo]
                unfold Hid rowBack
                have hp := path_to (f := pf) (x := b) hkb1 (fun i hi => (hkb2 i hi).1) kb 0 (by omega) 8 (by omega)
                have h0 : iterN pf 0 b = b := rfl
                rw [h0] at hp
                rw [hSE, hpf, hp]
                simp [List.map_map, Function.comp_def]
              have HMK := hid hmx
              have HK1 := hid hkb1
              have HK2 := hid hkb2
              have HLN : Hid (rowL c.all N a b = (rowBack c.all N a b).reverse) := rfl
              clear hkb1 hkb2 hpf hSE hfo
              have hMl := hMx.lt
              obtain ⟨DM, hDM, hDA⟩ := hMx
              have hDA2 : ∀ x : Nat, x < 8 → DM.atKey (arcL a x) (.lit (.int .i64 0)) = .lit (.int .i64 ((SE.by_ x : Nat) : Int)) := by rw [← HEND.out]; exact hDA
              have HDA := hid hDA2
              have HDM := hid hDM
              clear hDA hDA2 hDM
              have hxW3 : Ext w W3 := BelS.ext (BelS.trans hXw.belS hbx) (fun k hk => NS (by omega) (by omega))
              obtain ⟨ga, gp, -, -, -, -⟩ := FX0.out W3 hbx
              have FZ : Hid (∀ w', Ext W3 w' → w'.cell? ⟨w.heap.size, 0, none⟩ = some (.int .i64 a) ∧ w'.cell? ⟨w.heap.size + 1 + 1, 0, none⟩ = some (.map (some (w.heap.size + 1)))) := fun w' h => ⟨h.cell ga, h.cell gp⟩
              have hBX : Bounds W3 A' c.all := hbx.rd hBa (fun p e => by have := HAB.out p e; exact NS (by omega) (by omega))
              clear ga gp
              refine wpIn_wide.2 ?_
              go_loopg [14, 15] kb (fun d o at_ wr => ∃ (i : Nat) (A2 : Option Addr) (cc : Nat), i + d = kb ∧ (i = 0 → A2 = none ∧ cc = 0) ∧ o = .slice A2 i cc ∧ at_ = .int .i64 (iterN pf i b : Int) ∧ Hid (wr.ownsRow W3.heap.size 3 1 (.slice A2 i cc) i (outC fo i)) ∧ Ext W3 wr)
              case atStart => exact ⟨0, none, 0, by omega, fun _ => ⟨rfl, rfl⟩, rfl, rfl, own_nil _ _ _ _, Ext.refl _⟩
              case round =>
                obtain ⟨i, A2, cc, hi, hnil, rfl, rfl, O, hx⟩ := hrel
                obtain ⟨fa, fp⟩ := FZ.out _ hx
                by_cases hd : i < kb
                · obtain ⟨hne, h8, x, hx1, hxf⟩ := HK2.out i hd
                  obtain ⟨z, hz⟩ : ∃ z, iterN pf i b = z := ⟨_, rfl⟩
                  have HZ := hid hz
                  rw [hz] at hne h8 hx1 ⊢
                  have hne' : ((z : Int) != (a : Int)) = true := by simp; omega
                  have hkey := keyOf_arc (wf8 ha8) (wf8 h8)
                  have HDX : Hid (wr.ownsMap Try.prog 176 (plainElem (H := Unit) Try.prog 3) (w.heap.size + 1) ((kk + 1) * 52) DM) := by
                    obtain ⟨es, cl, hb, F, hs, hD⟩ := HDM.out
                    exact ⟨es, cl, (Below.block hx (w.heap.size + 1) hMl).trans hb, F, hs, hD⟩
                  obtain ⟨bb, boff, hAeq, e0, e1, e2⟩ := hBX.at_ hx1
                  obtain ⟨yv, hyv⟩ : ∃ yv, SE.by_ z = yv := ⟨_, rfl⟩
                  have hDz := HDA.out z h8
                  rw [hyv] at hDz hx1 e0
                  have hyl : yv < c.all.length := (List.getElem?_eq_some_iff.1 hx1).1
                  have HXF := hid hxf
                  have HYV := hid hyv
                  have HLK : Hid (∀ cv : Int, DM.atKey (arcL a z) (.lit (.int .i64 0)) = .lit (.int .i64 cv) → cv = (yv : Int)) := fun cv h => by
                    rw [hDz] at h
                    cases h
                    rfl
                  have HAE := hid hAeq
                  clear hz hyv hDz hxf hx1 e1 e2 hAeq
                  have hsx := hx.size
                  have hi9 : (i + 1) * 8 ≤ 140737488355328 := by omega
                  have O2 := hid (own_below O.out (Ext.alloc (Ext.refl wr) (.cells #[.int .i64 (yv : Int)] 3)))
                  have hbase : W3.heap.size ≤ (wr.alloc (.cells #[.int .i64 (yv : Int)] 3)).heap.size := by simp; omega
                  clear O
                  go_wp2_with (first
                    | (at_lookup; refine wpList_lookup_own_int _ rfl _ _ 171 rfl 176 3 .i64 keyArc Try.underlying171 Try.underlying3 (zeroInt _) (w.heap.size + 1) ((kk + 1) * 52) DM rfl HDX.out _ _ rfl hkey ?_; intro cv hcv hcw; obtain rfl := HLK.out cv hcv; clear hcv hcw)
                    | (at_builtin; refine wpList_append_rd _ rfl _ _ 27 rfl elem_int W3.heap.size _ i (outC fo i) rfl O2.out _ 1 1 [.int .i64 (yv : Int)] rfl rfl (rd_block (heap_alloc_new wr _)) (by intro u hu; simp at hu; subst hu; rfl) hi9 hbase ?_))
                  intro A5 c5 w5 hown5 hbel5 _ _
                  have hx5 : Ext W3 w5 := Below.trans (Ext.alloc hx _) hbel5
                  obtain ⟨g5, rfl⟩ : ∃ g5, A5 = some ⟨g5, 0, none⟩ := own_some hown5
                  have hlc : w5.cell? ⟨g5, i, none⟩ = some (.int .i64 (yv : Int)) := by
                    have h := hown5.cells (g := g5) rfl i (.int .i64 (yv : Int)) (by rw [List.getElem?_append_right (by rw [outC_len]; omega), outC_len]; simp)
                    rw [Addr.add_lit, Nat.zero_add] at h
                    exact h
                  have e5 := hx5.cell e0
                  have hsl : A' = some ⟨bb, boff, none⟩ := HAE.out
                  have HO5 : Hid (w5.ownsRow W3.heap.size 3 1 (.slice (some ⟨g5, 0, none⟩) (i + 1) c5) (i + 1) (outC fo (i + 1))) := by
                    unfold Hid
                    rw [outC_succ, HFO.out, HZ.out, HYV.out]
                    exact hown5
                  have hw1 : IntKind.i64.wrap (((i + 1 : Nat) : Int) - 1) = (i : Int) := by rw [show ((i + 1 : Nat) : Int) - 1 = (i : Int) by omega]; exact IntWalk.i64_in _ ⟨by omega, by omega⟩
                  have hw2 : IntKind.i64.wrap ((i : Int) + 1 - 1) = (i : Int) := by rw [show (i : Int) + 1 - 1 = (i : Int) by omega]; exact IntWalk.i64_in _ ⟨by omega, by omega⟩
                  have hyl' : (yv : Int) < (c.all.length : Int) := by omega
                  clear hown5 e0
                  rw [hsl]
                  go_wp2
                  rw [← hsl]
                  go_roundg (gk - 1)
                  case measure => omega
                  case rel => exact ⟨i + 1, some ⟨g5, 0, none⟩, c5, by omega, fun h => absurd h (by omega), rfl, int_of (by rw [HXF.out]), HO5, hx5⟩
                · have hie : i = kb := by omega
                  subst hie
                  have hz : iterN pf i b = a := HK1.out
                  rw [hz]
                  have hne' : ((a : Int) != (a : Int)) = false := by simp
                  have hlen : (rowL c.all N a b).length = i := by rw [HLN.out, ← HRB.out]; simp
                  have HLE := hid hlen
                  have hsx := hx.size
                  have hwx := hxW3.size
                  clear hlen
                  go_wp2
                  by_cases hi0 : i = 0
                  · obtain ⟨rfl, rfl⟩ := hnil hi0
                    subst hi0
                    gi_wp2_with (first | (refine ⟨trivial, (callsIn_wide.2 (reverse_nil wr)).mono ?_⟩; rintro e w5 ⟨⟨v5, rfl⟩, rfl⟩))
                    have hm5 := HMK.out.belS (S := fun _ => False) (Ext.belS hx) (fun _ h => h.elim)
                    gi_wp2
                    refine leaves_marks (by simp) _ _ hm5 fun W' hb hc => ?_
                    refine ⟨_, results_tmp rfl _ _ _, none, 0, by rw [HLE.out]; rfl, ?_, Below.trans (hxW3.trans hx) hb⟩
                    have : rowL c.all N a b = [] := List.eq_nil_of_length_eq_zero HLE.out
                    rw [this]
                    exact Ints.nil _ _
                  · obtain ⟨m, rfl⟩ : ∃ m, i = m + 1 := ⟨i - 1, by omega⟩
                    obtain ⟨g, rfl⟩ : ∃ g, A2 = some ⟨g, 0, none⟩ := own_some O.out
                    have hgB := (O.out.lt g rfl).1
                    have hrow : RowN wr g (m + 1) fo := fun j hj => by
                      have h := O.out.cells (g := g) rfl j (.int .i64 (fo j)) (by simp [outC, hj])
                      rw [Addr.add_lit, Nat.zero_add] at h
                      exact ⟨h, O.out.frozenAt j⟩
                    have HRV := hid (reverse_any g (m + 1) cc fo wr hrow (by omega))
                    clear hrow
                    gi_wp2_with (first | (refine ⟨trivial, (callsIn_wide.2 HRV.out).mono ?_⟩; rintro e w5 ⟨⟨v5, rfl⟩, hb5, hr5⟩))
                    have hm5 := HMK.out.belS (S := fun k => k = g) ((Ext.belS hx).trans (hb5.belS (S := fun k => k = g) rfl)) (fun k h => by
                      have h1 : k = g := h
                      subst h1
                      rw [Array.getElem?_eq_none (by omega)]
                      intro e; cases e)
                    have hxw5 : Ext w w5 := (hxW3.trans hx).then_bel (by omega) hb5
                    have hI5 : Hid (Ints w5 (some ⟨g, 0, none⟩) (rowL c.all N a b)) := by
                      unfold Hid
                      rw [HLN.out, ← HRB.out]
                      refine .inr ⟨g, 0, rfl, fun j u hu => ?_⟩
                      rw [Nat.zero_add]
                      rw [List.getElem?_map, Option.map_eq_some_iff] at hu
                      obtain ⟨q, hq, rfl⟩ := hu
                      have hj : j < m + 1 := by have := (List.getElem?_eq_some_iff.1 hq).1; simpa using this
                      rw [(hr5 j hj).1]
                      rw [List.getElem?_reverse (by simpa using hj)] at hq
                      simp at hq
                      obtain ⟨y, hy1, hy2⟩ := hq
                      rw [List.getElem?_range (by omega)] at hy1
                      cases hy1
                      rw [← hy2]
                      rfl
                    gi_wp2
                    refine leaves_marks (by simp) _ _ hm5 fun W' hb hc => ?_
                    exact ⟨_, results_tmp rfl _ _ _, some ⟨g, 0, none⟩, cc, by rw [HLE.out]; rfl, hI5.out.kc (kc_of_cells hc), Below.trans hxw5 hb⟩
            · have heq : (Op.equalIn 10000 56 (.agg ((l8 s.sm).map (Value.int .i64)).toArray) (.agg ((l8 S3.sm).map (Value.int .i64)).toArray)).run Try.prog W3 = .ok false W3 := by
                have h := run_equalIn_arr1 W3 9998 56 3 .i64 8 Try.underlying56 Try.underlying3 (by kernel_rfl) cellsInt (l8 s.sm) (l8 S3.sm) (l8_len _) (l8_len _)
                rw [h]; simp [hsame]
              have HEQ := hid heq
              clear heq hsame hS3
              gi_wp2_with (first
                | (refine wpListIn_load_cells rfl 56 (.tmp 11) rfl ⟨W.heap.size, 0, none⟩ rfl ((l8 s.sm).map (Value.int .i64)) (.array 8 3) hAw3.cells Try.underlying56 rfl (by rw [info8]; simp [l8_len]) ?_)
                | (refine wpListIn_load_cells rfl 56 (.tmp 9) rfl ⟨BB, 0, none⟩ rfl ((l8 S3.sm).map (Value.int .i64)) (.array 8 3) i1.cells Try.underlying56 rfl (by rw [info8]; simp [l8_len]) ?_)
                | (refine wpListIn_eql_op rfl 56 56 (.tmp 82) (.tmp 83) rfl _ _ rfl rfl false (by kernel_rfl) HEQ.out ?_))
              clear e0 e1
              gi_wp2
              refine ⟨⟨kk + 1, _, _, _, _, _, _, _, _, _, _, _, _, _, _, S3, rfl, by omega, i1, i2', hb3, hm3, hrb3, HR3⟩, ?_⟩
              simp [intOf]
              omega
          case stop =>
            rintro D c pre W _ _ h _
            exact h.elim
        · have hlt' : ¬ (kk : Int) < c.ev := by omega
          have HEND : Hid (s = endB c.all N a) := by
            have h := HR.out
            rw [show N - kk = 0 by omega, hLn] at h
            exact h
          have hMx := hM
          have hbx := hbl
          have hmx := hm
          clear hA hM hrb HR
          gi_wp2
          clear e0 e1 e2 e3 e4 e5
          obtain ⟨kb, hkb, hkb1, hkb2⟩ := HOK.out.back
          obtain ⟨SE, hSE⟩ : ∃ SE, endB c.all N a = SE := ⟨_, rfl⟩
          rw [hSE] at hkb1 hkb2 HEND
          obtain ⟨pf, hpf⟩ : ∃ pf, predR c.all SE = pf := ⟨_, rfl⟩
          rw [hpf] at hkb1 hkb2
          obtain ⟨fo, hfo⟩ : ∃ fo : Nat → Int, (fun j => (SE.by_ (iterN pf j b) : Int)) = fo := ⟨_, rfl⟩
          have HFO : Hid (∀ j, fo j = (SE.by_ (iterN pf j b) : Int)) := fun j => by rw [← hfo]
          have HRB : Hid ((List.range kb).map fo = rowBack c.all N a b) := by
            rw [← hfo]
            unfold Hid rowBack
            have hp := path_to (f := pf) (x := b) hkb1 (fun i hi => (hkb2 i hi).1) kb 0 (by omega) 8 (by omega)
            have h0 : iterN pf 0 b = b := rfl
            rw [h0] at hp
            rw [hSE, hpf, hp]
            simp [List.map_map, Function.comp_def]
          have HMK := hid hmx
          have HK1 := hid hkb1
          have HK2 := hid hkb2
          have HLN : Hid (rowL c.all N a b = (rowBack c.all N a b).reverse) := rfl
          clear hkb1 hkb2 hpf hSE hfo
          have hMl := hMx.lt
          obtain ⟨DM, hDM, hDA⟩ := hMx
          have hDA2 : ∀ x : Nat, x < 8 → DM.atKey (arcL a x) (.lit (.int .i64 0)) = .lit (.int .i64 ((SE.by_ x : Nat) : Int)) := by rw [← HEND.out]; exact hDA
          have HDA := hid hDA2
          have HDM := hid hDM
          clear hDA hDA2 hDM
          have hxW : Ext w W := BelS.ext (BelS.trans hXw.belS hbx) (fun k hk => NS (by omega) (by omega))
          obtain ⟨ga, gp, -, -, -, -⟩ := FX0.out W hbx
          have FZ : Hid (∀ w', Ext W w' → w'.cell? ⟨w.heap.size, 0, none⟩ = some (.int .i64 a) ∧ w'.cell? ⟨w.heap.size + 1 + 1, 0, none⟩ = some (.map (some (w.heap.size + 1)))) := fun w' h => ⟨h.cell ga, h.cell gp⟩
          have hBX : Bounds W A' c.all := hbx.rd hBa (fun p e => by have := HAB.out p e; exact NS (by omega) (by omega))
          clear ga gp
          refine wpIn_wide.2 ?_
          go_loopg [14, 15] kb (fun d o at_ wr => ∃ (i : Nat) (A2 : Option Addr) (cc : Nat), i + d = kb ∧ (i = 0 → A2 = none ∧ cc = 0) ∧ o = .slice A2 i cc ∧ at_ = .int .i64 (iterN pf i b : Int) ∧ Hid (wr.ownsRow W.heap.size 3 1 (.slice A2 i cc) i (outC fo i)) ∧ Ext W wr)
          case atStart => exact ⟨0, none, 0, by omega, fun _ => ⟨rfl, rfl⟩, rfl, rfl, own_nil _ _ _ _, Ext.refl _⟩
          case round =>
            obtain ⟨i, A2, cc, hi, hnil, rfl, rfl, O, hx⟩ := hrel
            obtain ⟨fa, fp⟩ := FZ.out _ hx
            by_cases hd : i < kb
            · obtain ⟨hne, h8, x, hx1, hxf⟩ := HK2.out i hd
              obtain ⟨z, hz⟩ : ∃ z, iterN pf i b = z := ⟨_, rfl⟩
              have HZ := hid hz
              rw [hz] at hne h8 hx1 ⊢
              have hne' : ((z : Int) != (a : Int)) = true := by simp; omega
              have hkey := keyOf_arc (wf8 ha8) (wf8 h8)
              have HDX : Hid (wr.ownsMap Try.prog 176 (plainElem (H := Unit) Try.prog 3) (w.heap.size + 1) (kk * 52) DM) := by
                obtain ⟨es, cl, hb, F, hs, hD⟩ := HDM.out
                exact ⟨es, cl, (Below.block hx (w.heap.size + 1) hMl).trans hb, F, hs, hD⟩
              obtain ⟨bb, boff, hAeq, e0, e1, e2⟩ := hBX.at_ hx1
              obtain ⟨yv, hyv⟩ : ∃ yv, SE.by_ z = yv := ⟨_, rfl⟩
              have hDz := HDA.out z h8
              rw [hyv] at hDz hx1 e0
              have hyl : yv < c.all.length := (List.getElem?_eq_some_iff.1 hx1).1
              have HXF := hid hxf
              have HYV := hid hyv
              have HLK : Hid (∀ cv : Int, DM.atKey (arcL a z) (.lit (.int .i64 0)) = .lit (.int .i64 cv) → cv = (yv : Int)) := fun cv h => by
                rw [hDz] at h
                cases h
                rfl
              have HAE := hid hAeq
              clear hz hyv hDz hxf hx1 e1 e2 hAeq
              have hsx := hx.size
              have hi9 : (i + 1) * 8 ≤ 140737488355328 := by omega
              have O2 := hid (own_below O.out (Ext.alloc (Ext.refl wr) (.cells #[.int .i64 (yv : Int)] 3)))
              have hbase : W.heap.size ≤ (wr.alloc (.cells #[.int .i64 (yv : Int)] 3)).heap.size := by simp; omega
              clear O
              go_wp2_with (first
                | (at_lookup; refine wpList_lookup_own_int _ rfl _ _ 171 rfl 176 3 .i64 keyArc Try.underlying171 Try.underlying3 (zeroInt _) (w.heap.size + 1) (kk * 52) DM rfl HDX.out _ _ rfl hkey ?_; intro cv hcv hcw; obtain rfl := HLK.out cv hcv; clear hcv hcw)
                | (at_builtin; refine wpList_append_rd _ rfl _ _ 27 rfl elem_int W.heap.size _ i (outC fo i) rfl O2.out _ 1 1 [.int .i64 (yv : Int)] rfl rfl (rd_block (heap_alloc_new wr _)) (by intro u hu; simp at hu; subst hu; rfl) hi9 hbase ?_))
              intro A5 c5 w5 hown5 hbel5 _ _
              have hx5 : Ext W w5 := Below.trans (Ext.alloc hx _) hbel5
              obtain ⟨g5, rfl⟩ : ∃ g5, A5 = some ⟨g5, 0, none⟩ := own_some hown5
              have hlc : w5.cell? ⟨g5, i, none⟩ = some (.int .i64 (yv : Int)) := by
                have h := hown5.cells (g := g5) rfl i (.int .i64 (yv : Int)) (by rw [List.getElem?_append_right (by rw [outC_len]; omega), outC_len]; simp)
                rw [Addr.add_lit, Nat.zero_add] at h
                exact h
              have e5 := hx5.cell e0
              have hsl : A' = some ⟨bb, boff, none⟩ := HAE.out
              have HO5 : Hid (w5.ownsRow W.heap.size 3 1 (.slice (some ⟨g5, 0, none⟩) (i + 1) c5) (i + 1) (outC fo (i + 1))) := by
                unfold Hid
                rw [outC_succ, HFO.out, HZ.out, HYV.out]
                exact hown5
              have hw1 : IntKind.i64.wrap (((i + 1 : Nat) : Int) - 1) = (i : Int) := by rw [show ((i + 1 : Nat) : Int) - 1 = (i : Int) by omega]; exact IntWalk.i64_in _ ⟨by omega, by omega⟩
              have hw2 : IntKind.i64.wrap ((i : Int) + 1 - 1) = (i : Int) := by rw [show (i : Int) + 1 - 1 = (i : Int) by omega]; exact IntWalk.i64_in _ ⟨by omega, by omega⟩
              have hyl' : (yv : Int) < (c.all.length : Int) := by omega
              clear hown5 e0
              rw [hsl]
              go_wp2
              rw [← hsl]
              go_roundg (gk - 1)
              case measure => omega
              case rel => exact ⟨i + 1, some ⟨g5, 0, none⟩, c5, by omega, fun h => absurd h (by omega), rfl, int_of (by rw [HXF.out]), HO5, hx5⟩
            · have hie : i = kb := by omega
              subst hie
              have hz : iterN pf i b = a := HK1.out
              rw [hz]
              have hne' : ((a : Int) != (a : Int)) = false := by simp
              have hlen : (rowL c.all N a b).length = i := by rw [HLN.out, ← HRB.out]; simp
              have HLE := hid hlen
              have hsx := hx.size
              have hwx := hxW.size
              clear hlen
              go_wp2
              by_cases hi0 : i = 0
              · obtain ⟨rfl, rfl⟩ := hnil hi0
                subst hi0
                gi_wp2_with (first | (refine ⟨trivial, (callsIn_wide.2 (reverse_nil wr)).mono ?_⟩; rintro e w5 ⟨⟨v5, rfl⟩, rfl⟩))
                have hm5 := HMK.out.belS (S := fun _ => False) (Ext.belS hx) (fun _ h => h.elim)
                gi_wp2
                refine leaves_marks (by simp) _ _ hm5 fun W' hb hc => ?_
                refine ⟨_, results_tmp rfl _ _ _, none, 0, by rw [HLE.out]; rfl, ?_, Below.trans (hxW.trans hx) hb⟩
                have : rowL c.all N a b = [] := List.eq_nil_of_length_eq_zero HLE.out
                rw [this]
                exact Ints.nil _ _
              · obtain ⟨m, rfl⟩ : ∃ m, i = m + 1 := ⟨i - 1, by omega⟩
                obtain ⟨g, rfl⟩ : ∃ g, A2 = some ⟨g, 0, none⟩ := own_some O.out
                have hgB := (O.out.lt g rfl).1
                have hrow : RowN wr g (m + 1) fo := fun j hj => by
                  have h := O.out.cells (g := g) rfl j (.int .i64 (fo j)) (by simp [outC, hj])
                  rw [Addr.add_lit, Nat.zero_add] at h
                  exact ⟨h, O.out.frozenAt j⟩
                have HRV := hid (reverse_any g (m + 1) cc fo wr hrow (by omega))
                clear hrow
                gi_wp2_with (first | (refine ⟨trivial, (callsIn_wide.2 HRV.out).mono ?_⟩; rintro e w5 ⟨⟨v5, rfl⟩, hb5, hr5⟩))
                have hm5 := HMK.out.belS (S := fun k => k = g) ((Ext.belS hx).trans (hb5.belS (S := fun k => k = g) rfl)) (fun k h => by
                  have h1 : k = g := h
                  subst h1
                  rw [Array.getElem?_eq_none (by omega)]
                  intro e; cases e)
                have hxw5 : Ext w w5 := (hxW.trans hx).then_bel (by omega) hb5
                have hI5 : Hid (Ints w5 (some ⟨g, 0, none⟩) (rowL c.all N a b)) := by
                  unfold Hid
                  rw [HLN.out, ← HRB.out]
                  refine .inr ⟨g, 0, rfl, fun j u hu => ?_⟩
                  rw [Nat.zero_add]
                  rw [List.getElem?_map, Option.map_eq_some_iff] at hu
                  obtain ⟨q, hq, rfl⟩ := hu
                  have hj : j < m + 1 := by have := (List.getElem?_eq_some_iff.1 hq).1; simpa using this
                  rw [(hr5 j hj).1]
                  rw [List.getElem?_reverse (by simpa using hj)] at hq
                  simp at hq
                  obtain ⟨y, hy1, hy2⟩ := hq
                  rw [List.getElem?_range (by omega)] at hy1
                  cases hy1
                  rw [← hy2]
                  rfl
                gi_wp2
                refine leaves_marks (by simp) _ _ hm5 fun W' hb hc => ?_
                exact ⟨_, results_tmp rfl _ _ _, some ⟨g, 0, none⟩, cc, by rw [HLE.out]; rfl, hI5.out.kc (kc_of_cells hc), Below.trans hxw5 hb⟩
end Go.Proofs.Ytgnjhaomlbkgcaa

namespace Go.Proofs.Ytgnjhaomlbkgcaa
open Go Go.RowKit
set_option linter.unusedVariables false
set_option linter.unusedSimpArgs false

/-- The error of Row. -/
def rowC (c : Cs) (a b : Int) : Int := if askedC c [a, b] = 0 then (if gapsM allT c a.toNat b.toNat = far then 6 else 0) else askedC c [a, b]
def RowPost (w : World) (c : Cs) (a b : Int) (e : Ending) (w' : World) : Prop :=
  ∃ r, e = .returned (.tuple #[r, .int .i64 (rowC c a b)]) ∧ Ext w w' ∧ (rowC c a b ≠ 0 → r = .slice none 0 0) ∧
    (rowC c a b = 0 → ∃ A k, r = .slice A (rowL c.all c.ev.toNat a.toNat b.toNat).length k ∧ Ints w' A (rowL c.all c.ev.toNat a.toNat b.toNat))

set_option maxRecDepth 100000 in
set_option maxHeartbeats 1000000 in
theorem rowa_any (v : Value) (c : Cs) (a b : Int) (w : World) (hc : CsR w v c) (hs : c.sized) :
    Calls Try.prog 44 #[v, .int .i64 a, .int .i64 b] w (RowPost w c a b) := by
  have hc' := hc
  obtain ⟨A1, c1, A2, c2, rfl, hB, hC⟩ := hc
  have HF : Hid (rowC c a b = if askedC c [a, b] = 0 then (if gapsM allT c a.toNat b.toNat = far then 6 else 0) else askedC c [a, b]) := rfl
  have HK : Hid (askedC c [a, b] = 0 → gapsM allT c a.toNat b.toNat ≠ far → RowOK c.all c.ev.toNat a.toNat b.toNat (gapsM allT c a.toNat b.toNat)) := fun h hn => by
    obtain ⟨hc0, ht, hlt⟩ := askedC_parts h
    have ha := hlt a (by simp)
    have hb := hlt b (by simp)
    have hcl : clashM (gapsM allT c) = false := by
      unfold toldC at ht
      rw [if_pos hc0] at ht
      cases hq : clashM (gapsM allT c) with
      | false => rfl
      | true => rw [hq] at ht; cases ht
    have hf := fine_of hc0 hcl
    rw [belL_all] at hf
    exact row_ok hc0 hf (by omega) (by omega) hn
  go_enter Try.func44, Try.ntmps44
  go_wp2_with fail
  refine (asked_any _ c _ 2 [a, b] _ (hc'.ext ?hx) hs (ints_two _ _ a b (by simp [go_sem]) (by simp [go_sem])) (by simp)).mono ?_
  case hx => exact (Ext.alloc (Ext.alloc (Ext.refl w) _) _)
  rintro e w1 ⟨r, rfl, hb1, hr1, hr2⟩
  have hx1 : Ext w w1 := Ext.trans (Ext.alloc (Ext.alloc (Ext.refl w) _) _) hb1
  by_cases h0 : askedC c [a, b] = 0
  · have hr := hr1 h0
    obtain ⟨hc0, _, hlt⟩ := askedC_parts h0
    have HC0 := hid hc0
    obtain ⟨ev1, ev8⟩ := checkC_ev hc0
    have ha := hlt a (by simp)
    have hb := hlt b (by simp)
    have HK2 : Hid (gapsM allT c a.toNat b.toNat ≠ far → RowOK c.all c.ev.toNat a.toNat b.toNat (gapsM allT c a.toNat b.toNat)) := HK.out h0
    have HFa : Hid (gapsM allT c a.toNat b.toNat = far → rowC c a b = 6) := fun h => by rw [HF.out, if_pos h0, if_pos h]
    have HFb : Hid (gapsM allT c a.toNat b.toNat ≠ far → rowC c a b = 0) := fun h => by rw [HF.out, if_pos h0, if_neg h]
    rw [h0]
    clear hr1 hr2 h0 hlt hc0 HK HF
    obtain ⟨an, rfl⟩ : ∃ n : Nat, a = n := ⟨a.toNat, by omega⟩
    obtain ⟨bn, rfl⟩ : ∃ n : Nat, b = n := ⟨b.toNat, by omega⟩
    simp only [Int.toNat_natCast] at HFa HFb HK2
    have han : an < 8 := by omega
    have hbn : bn < 8 := by omega
    have han' : (an : Int) < 8 := by omega
    have hbn' : (bn : Int) < 8 := by omega
    have hr' := hr
    obtain ⟨D, B1, k1, B2, k2, rfl, hd, _, _⟩ := hr
    have hcell := hd.at_ han hbn
    have HDK := hid hr'
    clear hr'
    obtain ⟨G, hG⟩ : ∃ G, gapsM allT c an bn = G := ⟨_, rfl⟩
    rw [hG] at HFa HFb HK2 hcell
    clear hG
    by_cases hfar : G = 1099511627776
    · have HE : Hid (rowC c an bn = 6) := HFa.out (by simpa [far] using hfar)
      clear HFa HFb HK2
      go_wp2
      go_ret2
      exact ⟨.slice none 0 0, by rw [HE.out]; rfl, hx1, fun _ => rfl, fun h => by rw [HE.out] at h; cases h⟩
    · have HE : Hid (rowC c an bn = 0) := HFb.out (by simpa [far] using hfar)
      have HRK : Hid (RowOK c.all c.ev.toNat an bn G) := HK2.out (by simpa [far] using hfar)
      clear HFa HFb HK2
      go_wp2_with fail
      refine (row_any _ c _ an bn w1 HDK.out HC0.out ha.2 hb.2 hs G HRK.out).mono ?_
      rintro e w2 ⟨A, k, rfl, hI, hb2⟩
      have HI := hid hI
      clear hI
      go_wp2
      go_ret2
      exact ⟨.slice A (rowL c.all c.ev.toNat an bn).length k, by rw [HE.out]; rfl, hx1.trans hb2, fun h => absurd HE.out h, fun _ => ⟨A, k, rfl, HI.out⟩⟩
  · rw [if_neg h0] at HF
    have H0 := hid h0
    have hr := hr2 h0
    subst hr
    generalize hE : askedC c [a, b] = E at *
    clear hE hr1 hr2 HK
    go_wp2
    go_ret2
    exact ⟨.slice none 0 0, by rw [HF.out]; rfl, hx1, fun _ => rfl, fun h => absurd (HF.out.symm.trans h) H0.out⟩
end Go.Proofs.Ytgnjhaomlbkgcaa
