/- Rows of bounds, and the gaps as the least sums of them. No program stands here. -/
import Derived.Test.YtgnjhaomlbkgcaaWGap
import Derived.Test.YtgnjhaomlbkgcaaWCyc
namespace Go.Proofs.Ytgnjhaomlbkgcaa
open Go Go.RowKit
set_option linter.unusedVariables false
set_option linter.unusedSimpArgs false

/-- The bounds l lead on, one behind the other, from a on. -/
def chn : Nat → List Bd → Prop
  | _, [] => True
  | a, x :: l => x.f.toNat = a ∧ chn x.t.toNat l
def endW : Nat → List Bd → Nat
  | a, [] => a
  | _, x :: l => endW x.t.toNat l
def sumW : List Bd → Int
  | [] => 0
  | x :: l => x.m + sumW l
theorem chn_app : ∀ (l m : List Bd) (a : Nat), chn a (l ++ m) ↔ chn a l ∧ chn (endW a l) m := by
  intro l
  induction l with
  | nil => intro m a; simp [chn, endW]
  | cons x l ih => intro m a; simp only [List.cons_append, chn, endW, ih, and_assoc]
theorem endW_app : ∀ (l m : List Bd) (a : Nat), endW a (l ++ m) = endW (endW a l) m := by
  intro l
  induction l with
  | nil => intro m a; rfl
  | cons x l ih => intro m a; simp only [List.cons_append, endW, ih]
theorem sumW_app : ∀ (l m : List Bd), sumW (l ++ m) = sumW l + sumW m := by
  intro l
  induction l with
  | nil => intro m; simp [sumW]
  | cons x l ih => intro m; simp only [List.cons_append, sumW, ih]; omega
/-- A row of bounds of L from a to b. -/
structure Row (L : List Bd) (a b : Nat) (l : List Bd) : Prop where
  mem : ∀ x ∈ l, x ∈ L
  chn : chn a l
  end_ : endW a l = b
theorem Row.nil (L : List Bd) (a : Nat) : Row L a a [] := ⟨fun _ h => (by cases h), trivial, rfl⟩
theorem Row.app {L : List Bd} {a b c : Nat} {l m : List Bd} (h : Row L a b l) (k : Row L b c m) : Row L a c (l ++ m) :=
  ⟨fun x hx => (List.mem_append.1 hx).elim (h.mem x) (k.mem x), (chn_app l m a).2 ⟨h.chn, by rw [h.end_]; exact k.chn⟩, by rw [endW_app, h.end_, k.end_]⟩
theorem Row.one {L : List Bd} {x : Bd} (hx : x ∈ L) : Row L x.f.toNat x.t.toNat [x] := ⟨fun y hy => (by simp at hy; subst hy; exact hx), ⟨rfl, trivial⟩, rfl⟩
theorem Row.snoc {L : List Bd} {a : Nat} {l : List Bd} {x : Bd} (h : Row L a x.f.toNat l) (hx : x ∈ L) : Row L a x.t.toNat (l ++ [x]) := h.app (Row.one hx)
theorem Row.mono {L L' : List Bd} {a b : Nat} {l : List Bd} (h : Row L a b l) (hs : ∀ x ∈ L, x ∈ L') : Row L' a b l := ⟨fun x hx => hs x (h.mem x hx), h.chn, h.end_⟩
theorem endW_lt {L : List Bd} (hL : ∀ b ∈ L, b.ok) : ∀ {l : List Bd} {a : Nat}, (∀ x ∈ l, x ∈ L) → a < 8 → endW a l < 8 := by
  intro l
  induction l with
  | nil => exact fun _ h => h
  | cons x l ih =>
    intro a hm _
    obtain ⟨_, ⟨h1, h2⟩, _⟩ := hL x (hm x (by simp))
    exact ih (fun y hy => hm y (by simp [hy])) (by omega)
theorem sumW_le {L : List Bd} (hL : ∀ b ∈ L, b.ok) : ∀ {l : List Bd}, (∀ x ∈ l, x ∈ L) → sumW l ≤ 1000 * l.length := by
  intro l
  induction l with
  | nil => intro _; simp [sumW]
  | cons x l ih =>
    intro hm
    obtain ⟨_, _, _, h2⟩ := hL x (hm x (by simp))
    have := ih (fun y hy => hm y (by simp [hy]))
    simp only [sumW, List.length_cons]; omega
/-- Without a part that comes back to where it began. -/
theorem row_cut {L : List Bd} (hL : ∀ b ∈ L, b.ok) {a b : Nat} {l : List Bd} (ha : a < 8) (h : Row L a b l) (hlen : 8 ≤ l.length) :
    ∃ v m1 m2 m3, l = m1 ++ m2 ++ m3 ∧ Row L a v m1 ∧ Row L v v m2 ∧ Row L v b m3 ∧ 1 ≤ m2.length ∧ m2.length ≤ 8 ∧ v < 8 := by
  obtain ⟨i, j, hij, hj, he⟩ := pigeon (fun i => endW a (l.take i)) 8 (fun i _ => endW_lt hL (fun x hx => h.mem x (List.mem_of_mem_take hx)) ha)
  have e1 : l = l.take i ++ (l.drop i).take (j - i) ++ l.drop j := by
    rw [List.append_assoc, show l.drop j = (l.drop i).drop (j - i) by rw [List.drop_drop]; congr 1; omega, List.take_append_drop, List.take_append_drop]
  have e2 : l.take j = l.take i ++ (l.drop i).take (j - i) := by
    have := List.take_add (l := l) (i := i) (j := j - i)
    rwa [show i + (j - i) = j by omega] at this
  have hc := h.chn
  rw [e1, chn_app, chn_app] at hc
  obtain ⟨⟨c1, c2⟩, c3⟩ := hc
  have hend := h.end_
  rw [e1, endW_app, endW_app] at hend
  rw [endW_app] at c3
  rw [e2, endW_app] at he
  refine ⟨endW a (l.take i), l.take i, (l.drop i).take (j - i), l.drop j, e1, ⟨fun x hx => h.mem x (List.mem_of_mem_take hx), c1, rfl⟩, ⟨fun x hx => h.mem x (List.mem_of_mem_drop (List.mem_of_mem_take hx)), c2, he.symm⟩, ⟨fun x hx => h.mem x (List.mem_of_mem_drop hx), ?_, ?_⟩, ?_, ?_, endW_lt hL (fun x hx => h.mem x (List.mem_of_mem_take hx)) ha⟩
  · rw [← he] at c3; exact c3
  · rw [← he] at hend; exact hend
  · simp; omega
  · simp; omega
/-- No bounds of L that come back sum to less than nothing. -/
def Fine (L : List Bd) : Prop := ∀ a l, a < 8 → Row L a a l → 0 ≤ sumW l
theorem row_short {L : List Bd} (hL : ∀ b ∈ L, b.ok) (hf : Fine L) {a b : Nat} (ha : a < 8) : ∀ (n : Nat) {l : List Bd}, l.length ≤ n → Row L a b l → ∃ m, Row L a b m ∧ m.length ≤ 7 ∧ sumW m ≤ sumW l := by
  intro n
  induction n with
  | zero => intro l hl h; exact ⟨l, h, by omega, Int.le_refl _⟩
  | succ n ih =>
    intro l hl h
    by_cases h8 : l.length ≤ 7
    · exact ⟨l, h, h8, Int.le_refl _⟩
    · obtain ⟨v, m1, m2, m3, rfl, r1, r2, r3, l1, _, hv⟩ := row_cut hL ha h (by omega)
      have := hf v m2 hv r2
      simp only [List.length_append] at hl
      obtain ⟨m, hm, h7, hs⟩ := ih (l := m1 ++ m3) (by simp; omega) (r1.app r3)
      exact ⟨m, hm, h7, by simp only [sumW_app] at *; omega⟩
theorem ring_short {L : List Bd} (hL : ∀ b ∈ L, b.ok) : ∀ (n : Nat) {a : Nat} {l : List Bd}, a < 8 → l.length ≤ n → Row L a a l → sumW l < 0 → ∃ v m, v < 8 ∧ Row L v v m ∧ m.length ≤ 8 ∧ sumW m < 0 := by
  intro n
  induction n with
  | zero => intro a l ha hl h hs; exact ⟨a, l, ha, h, by omega, hs⟩
  | succ n ih =>
    intro a l ha hl h hs
    by_cases h8 : l.length ≤ 8
    · exact ⟨a, l, ha, h, h8, hs⟩
    · obtain ⟨v, m1, m2, m3, rfl, r1, r2, r3, l1, l2, hv⟩ := row_cut hL ha h (by omega)
      by_cases h0 : sumW m2 < 0
      · exact ⟨v, m2, hv, r2, l2, h0⟩
      · simp only [List.length_append] at hl
        exact ih (l := m1 ++ m3) ha (by simp; omega) (r1.app r3) (by simp only [sumW_app] at *; omega)

/-! ### The gaps -/
/-- What is no row's sum is no gap. -/
def Sound (L : List Bd) (g : Mat) : Prop := ∀ a b, a < 8 → b < 8 → g a b ≠ far → ∃ l, Row L a b l ∧ sumW l = g a b
theorem Sound.init (L : List Bd) : Sound L init0 := by
  intro a b _ _ h
  unfold init0 at *
  split
  · rename_i e; subst e; exact ⟨[], Row.nil L a, rfl⟩
  · rename_i e; rw [if_neg e] at h; exact absurd rfl h
theorem Sound.relax1 {L : List Bd} {g : Mat} (h : Sound L g) {x : Bd} (hx : x ∈ L) (hok : x.ok) : Sound L (relax1 g x) := by
  intro a b ha hb hn
  obtain ⟨⟨f0, f8⟩, ⟨t0, t8⟩, _⟩ := hok
  unfold Go.Proofs.Ytgnjhaomlbkgcaa.relax1 at *
  split at hn
  · rename_i hc
    rw [if_pos hc]
    obtain ⟨rfl, hf⟩ := hc
    obtain ⟨l, hl, hs⟩ := h a x.f.toNat ha (by omega) hf
    by_cases hm : g a x.t.toNat ≤ g a x.f.toNat + x.m
    · rw [Int.min_eq_left hm] at *
      exact h a _ ha hb hn
    · rw [Int.min_eq_right (by omega)] at *
      exact ⟨l ++ [x], hl.snoc hx, by rw [sumW_app, hs]; simp [sumW]⟩
  · rename_i hc
    rw [if_neg hc]
    exact h a b ha hb hn
theorem Sound.relaxL {L : List Bd} (hL : ∀ b ∈ L, b.ok) : ∀ {M : List Bd} {g : Mat}, (∀ x ∈ M, x ∈ L) → Sound L g → Sound L (relaxL g M) := by
  intro M
  induction M with
  | nil => exact fun _ h => h
  | cons x M ih => exact fun hm h => ih (fun y hy => hm y (by simp [hy])) (h.relax1 (hm x (by simp)) (hL x (hm x (by simp))))
theorem Sound.rnds {L : List Bd} (hL : ∀ b ∈ L, b.ok) : ∀ (n : Nat) {g : Mat}, Sound L g → Sound L (rnds L n g) := by
  intro n
  induction n with
  | zero => exact fun h => h
  | succ n ih => exact fun h => ih (h.relaxL hL (fun _ hx => hx))
def Le8 (g g' : Mat) : Prop := ∀ a b, a < 8 → b < 8 → g a b ≤ g' a b
theorem relax1_le (g : Mat) (x : Bd) : Le8 (relax1 g x) g := by
  intro a b _ _
  unfold relax1
  split
  · rename_i h; obtain ⟨rfl, _⟩ := h; omega
  · exact Int.le_refl _
theorem relaxL_le : ∀ (M : List Bd) (g : Mat), Le8 (relaxL g M) g := by
  intro M
  induction M with
  | nil => exact fun g a b _ _ => Int.le_refl _
  | cons x M ih => exact fun g a b ha hb => Int.le_trans (ih _ a b ha hb) (relax1_le g x a b ha hb)
/-- After one round more, one bound more. -/
theorem relaxL_step : ∀ {M : List Bd} {g : Mat} {x : Bd} {a : Nat} {s : Int}, x ∈ M → x.ok → a < 8 → g a x.f.toNat ≤ s → s < far → relaxL g M a x.t.toNat ≤ s + x.m := by
  intro M
  induction M with
  | nil => intro g x a s h; cases h
  | cons y M ih =>
    intro g x a s h hok ha hs hf
    have hok' := hok
    obtain ⟨⟨f0, f8⟩, ⟨t0, t8⟩, _⟩ := hok'
    rcases List.mem_cons.1 h with rfl | h1
    · refine Int.le_trans (relaxL_le M _ a _ ha (by omega)) ?_
      unfold relax1
      rw [if_pos ⟨rfl, by omega⟩]
      omega
    · exact ih h1 hok ha (Int.le_trans (relax1_le g y a _ ha (by omega)) hs) hf
theorem row_snoc_inv {L : List Bd} {a b : Nat} {l : List Bd} (h : Row L a b l) (hne : l ≠ []) : ∃ m x, l = m ++ [x] ∧ x ∈ L ∧ Row L a x.f.toNat m ∧ x.t.toNat = b := by
  obtain ⟨m, x, rfl⟩ : ∃ m x, l = m ++ [x] := ⟨l.dropLast, l.getLast hne, (List.dropLast_concat_getLast hne).symm⟩
  have h1 := (chn_app m [x] a).1 h.chn
  have h2 := h.end_
  rw [endW_app] at h2
  exact ⟨m, x, rfl, h.mem x (by simp), ⟨fun y hy => h.mem y (by simp [hy]), h1.1, h1.2.1.symm⟩, h2⟩
theorem rnds_snoc (L : List Bd) : ∀ (n : Nat) (g : Mat), rnds L (n + 1) g = relaxL (rnds L n g) L := by
  intro n
  induction n with
  | zero => intro g; rfl
  | succ n ih => intro g; show rnds L (n + 1) (relaxL g L) = _; rw [ih]; rfl
theorem rnds_le {L : List Bd} (n : Nat) (g : Mat) : Le8 (rnds L (n + 1) g) (rnds L n g) := by rw [rnds_snoc]; exact relaxL_le _ _
/-- After n rounds no gap is greater than the sum of a row of at most n bounds. -/
theorem rnds_row {L : List Bd} (hL : ∀ b ∈ L, b.ok) {a : Nat} (ha : a < 8) : ∀ (n : Nat) {b : Nat} {l : List Bd}, n ≤ 1000 → b < 8 → Row L a b l → l.length ≤ n → rnds L n init0 a b ≤ sumW l := by
  intro n
  induction n with
  | zero =>
    intro b l _ hb h hl
    obtain rfl : l = [] := List.eq_nil_of_length_eq_zero (by omega)
    have := h.end_
    simp only [endW] at this
    subst this
    simp [rnds, init0, sumW]
  | succ n ih =>
    intro b l hn hb h hl
    by_cases hne : l = []
    · subst hne
      exact Int.le_trans (rnds_le n _ a b ha hb) (ih (by omega) hb h (by simp))
    · obtain ⟨m, x, rfl, hx, hm, rfl⟩ := row_snoc_inv h hne
      have hok := hL x hx
      simp only [List.length_append, List.length_cons, List.length_nil] at hl
      have h1 := ih (by omega) (by obtain ⟨⟨_, _⟩, _⟩ := hok; omega) hm (by omega)
      have h2 := sumW_le hL hm.mem
      rw [rnds_snoc, sumW_app]
      have := relaxL_step (g := rnds L n init0) hx hok ha h1 (by unfold far; omega)
      simpa [sumW] using this

theorem numFrom_snd' (l : List Bd) : ∀ n, (numFrom n l).map (·.2) = l := by
  induction l with
  | nil => exact fun _ => rfl
  | cons b l ih => intro n; simp [numFrom, ih]
theorem bel_all (c : Cs) : (belNum allT c).map (·.2) = c.all := by
  have h : ∀ (l : List Cl) (n : Nat), (clNum allT n l).map (·.2) = l.flatMap (·.bs) := by
    intro l
    induction l with
    | nil => intro n; rfl
    | cons x l ih => intro n; simp [clNum, allT, ih, numFrom_snd']
  unfold belNum Cs.all
  rw [List.map_append, numFrom_snd', h]
/-- The bounds that are believed. -/
def belL (tf : Int → Bool) (c : Cs) : List Bd := (belNum tf c).map (·.2)
theorem belL_all (c : Cs) : belL allT c = c.all := bel_all c
theorem belL_ok {tf : Int → Bool} {c : Cs} (h : checkC c = 0) : ∀ b ∈ belL tf c, b.ok := fun b hb => checkC_bd h b (bel_mem' hb)
theorem clash_false {g : Mat} (h : clashM g = false) (a : Nat) (ha : a < 8) : 0 ≤ g a a := by
  unfold clashM at h
  have h1 : ¬ g a a < 0 := fun hn => by
    have : ((List.range 8).any fun a => decide (g a a < 0)) = true := List.any_eq_true.2 ⟨a, by simpa using ha, by simpa using hn⟩
    rw [h] at this; cases this
  omega
theorem clash_true {g : Mat} (h : clashM g = true) : ∃ a, a < 8 ∧ g a a < 0 := by
  unfold clashM at h
  obtain ⟨a, ha, hn⟩ := List.any_eq_true.1 h
  exact ⟨a, by simpa using ha, by simpa using hn⟩
theorem fine_of {tf : Int → Bool} {c : Cs} (h : checkC c = 0) (hc : clashM (gapsM tf c) = false) : Fine (belL tf c) := by
  intro a l ha hr
  rcases Int.lt_or_le (sumW l) 0 with hs | hs
  · obtain ⟨v, m, hv, hm, h8, hs2⟩ := ring_short (belL_ok h) l.length ha (Nat.le_refl _) hr hs
    have h1 := rnds_row (belL_ok h) hv 8 (by omega) hv hm h8
    have h2 := clash_false hc v hv
    unfold gapsM belL at *
    omega
  · exact hs
theorem clash_of {tf : Int → Bool} {c : Cs} (h : checkC c = 0) (hf : Fine (belL tf c)) : clashM (gapsM tf c) = false := by
  cases hc : clashM (gapsM tf c) with
  | false => rfl
  | true =>
    obtain ⟨a, ha, hn⟩ := clash_true hc
    obtain ⟨l, hl, hs⟩ := (Sound.init (belL tf c)).rnds (belL_ok h) 8 a a ha ha (by show gapsM tf c a a ≠ far; unfold far; omega)
    have := hf a l ha hl
    have e : sumW l = gapsM tf c a a := hs
    omega
/-- What a gap is: the least sum. -/
theorem gap_le {tf : Int → Bool} {c : Cs} (h : checkC c = 0) (hf : Fine (belL tf c)) {a b : Nat} {l : List Bd} (ha : a < 8) (hb : b < 8) (hr : Row (belL tf c) a b l) : gapsM tf c a b ≤ sumW l := by
  obtain ⟨m, hm, h7, hs⟩ := row_short (belL_ok h) hf ha l.length (Nat.le_refl _) hr
  exact Int.le_trans (rnds_row (belL_ok h) ha 8 (by omega) hb hm (by omega)) hs
theorem gap_row {tf : Int → Bool} {c : Cs} (h : checkC c = 0) {a b : Nat} (ha : a < 8) (hb : b < 8) (hn : gapsM tf c a b ≠ far) : ∃ l, Row (belL tf c) a b l ∧ sumW l = gapsM tf c a b :=
  (Sound.init (belL tf c)).rnds (belL_ok h) 8 a b ha hb hn
theorem gap_lt_far {tf : Int → Bool} {c : Cs} (h : checkC c = 0) (hf : Fine (belL tf c)) {a b : Nat} {l : List Bd} (ha : a < 8) (hb : b < 8) (hr : Row (belL tf c) a b l) : gapsM tf c a b ≠ far := by
  obtain ⟨m, hm, h7, hs⟩ := row_short (belL_ok h) hf ha l.length (Nat.le_refl _) hr
  have h1 := rnds_row (belL_ok h) ha 8 (by omega) hb hm (by omega)
  have h2 := sumW_le (belL_ok h) hm.mem
  have h3 : gapsM tf c a b ≤ sumW m := h1
  unfold far; omega

/-! ### Truths -/
def TruthOf (L : List Bd) (t : Nat → Int) : Prop := ∀ x ∈ L, t x.t.toNat ≤ t x.f.toNat + x.m
theorem TruthOf.row {L : List Bd} {t : Nat → Int} (h : TruthOf L t) : ∀ {l : List Bd} {a b : Nat}, Row L a b l → t b ≤ t a + sumW l := by
  intro l
  induction l with
  | nil => intro a b hr; have := hr.end_; simp only [endW] at this; subst this; simp [sumW]
  | cons x l ih =>
    intro a b hr
    obtain ⟨rfl, h2⟩ := hr.chn
    have h1 := h x (hr.mem x (by simp))
    have h3 := ih (a := x.t.toNat) (b := b) ⟨fun y hy => hr.mem y (by simp [hy]), h2, hr.end_⟩
    simp only [sumW]; omega
theorem TruthOf.fine {L : List Bd} {t : Nat → Int} (h : TruthOf L t) : Fine L := fun a l _ hr => by have := h.row hr; omega
theorem TruthOf.gap {tf : Int → Bool} {c : Cs} {t : Nat → Int} (h : TruthOf (belL tf c) t) (h0 : checkC c = 0) {a b : Nat} (ha : a < 8) (hb : b < 8) (hn : gapsM tf c a b ≠ far) : t b - t a ≤ gapsM tf c a b := by
  obtain ⟨l, hl, hs⟩ := gap_row h0 ha hb hn
  have := h.row hl
  omega
theorem toldC_truth {c : Cs} {t : Nat → Int} (h0 : checkC c = 0) (h : TruthOf c.all t) : toldC c = 0 := by
  unfold toldC
  rw [if_pos h0, clash_of h0 (by rw [belL_all]; exact h.fine)]
  rfl
end Go.Proofs.Ytgnjhaomlbkgcaa
