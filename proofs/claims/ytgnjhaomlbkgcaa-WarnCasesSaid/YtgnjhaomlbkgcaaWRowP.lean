/- The plain law of Row: the bounds found last lead back to the event that it begins at, and sum to the gap. No program stands here. -/
import Derived.Test.YtgnjhaomlbkgcaaWRingP
import Derived.Test.YtgnjhaomlbkgcaaWGapsP
namespace Go.Proofs.Ytgnjhaomlbkgcaa
open Go Go.RowKit
set_option linter.unusedVariables false
set_option linter.unusedSimpArgs false

/-- One bound is looked at; was: the sums as they were when the round began. -/
def bstep (was : Nat → Int) (s : RS) (p : Nat × Bd) : RS :=
  if was p.2.f.toNat ≠ far ∧ was p.2.f.toNat + p.2.m < s.sm p.2.t.toNat then ⟨upd1 s.sm p.2.t.toNat (was p.2.f.toNat + p.2.m), upd1 s.by_ p.2.t.toNat p.1, 0⟩ else s
def bpass (was : Nat → Int) (s : RS) (L : List (Nat × Bd)) : RS := L.foldl (bstep was) s
def brun (L : List (Nat × Bd)) : Nat → RS → RS
  | 0, s => s
  | n + 1, s => brun L n (bpass s.sm s L)
def BS0 (a : Nat) : RS := ⟨fun x => if x = a then 0 else far, fun _ => 0, 0⟩
theorem brun_snoc (L : List (Nat × Bd)) : ∀ (n : Nat) (s : RS), brun L (n + 1) s = bpass (brun L n s).sm (brun L n s) L := by
  intro n
  induction n with
  | zero => intro s; rfl
  | succ n ih => intro s; show brun L (n + 1) (bpass s.sm s L) = _; rw [ih]; rfl

/-- What is known of the sums behind some rounds (k: the round that runs); R: the round of each event's last change. -/
structure BG (L : List Bd) (a : Nat) (was : Nat → Int) (s : RS) (R : Nat → Nat) (k : Nat) : Prop where
  row : ∀ x, x < 8 → s.sm x ≠ far → ∃ l, Row L a x l ∧ sumW l = s.sm x
  wrow : ∀ x, x < 8 → was x ≠ far → ∃ l, Row L a x l ∧ sumW l = was x
  le : ∀ x, x < 8 → s.sm x ≤ was x
  wle : ∀ x, x < 8 → was x ≤ far
  same : ∀ x, x < 8 → R x < k → s.sm x = was x
  new : ∀ x, x < 8 → k ≤ R x → s.sm x < was x
  rle : ∀ x, x < 8 → R x ≤ k
  zero : s.sm a = 0
  led : ∀ x, x < 8 → x ≠ a → s.sm x ≠ far → ∃ b, L[s.by_ x]? = some b ∧ b.t.toNat = x ∧ s.sm b.f.toNat ≠ far ∧ s.sm b.f.toNat + b.m ≤ s.sm x ∧ (R x ≤ R b.f.toNat → s.sm b.f.toNat + b.m < s.sm x)
  wlt : ∀ x, x < 8 → was x ≠ far → was x ≤ 1000 * (k : Int) - 1000
  wlo : ∀ x, x < 8 → 1000 - 1000 * (k : Int) ≤ was x
  slt : ∀ x, x < 8 → s.sm x ≠ far → s.sm x ≤ 1000 * (k : Int)
  slo : ∀ x, x < 8 → -(1000 * (k : Int)) ≤ s.sm x
theorem BG.step {L : List Bd} (hL : ∀ b ∈ L, b.ok) (hf : Fine L) {a : Nat} (ha : a < 8) {was : Nat → Int} {s : RS} {R : Nat → Nat} {k i : Nat} {b : Bd} (hk : 1 ≤ k) (hk2 : k ≤ 100) (h : BG L a was s R k) (hi : L[i]? = some b) :
    ∃ R', BG L a was (bstep was s (i, b)) R' k := by
  have hb := List.mem_of_getElem? hi
  obtain ⟨⟨f0, f8⟩, ⟨t0, t8⟩, m0, m1⟩ := hL b hb
  by_cases hc : was b.f.toNat ≠ far ∧ was b.f.toNat + b.m < s.sm b.t.toNat
  · have hr : bstep was s (i, b) = ⟨upd1 s.sm b.t.toNat (was b.f.toNat + b.m), upd1 s.by_ b.t.toNat i, 0⟩ := by unfold bstep; rw [if_pos hc]
    rw [hr]
    obtain ⟨h1, h2⟩ := hc
    obtain ⟨l, hl, hs⟩ := h.wrow b.f.toNat (by omega) h1
    have hl2 := hl.snoc hb
    have hs2 : sumW (l ++ [b]) = was b.f.toNat + b.m := by rw [sumW_app, hs]; simp [sumW]
    have hwb := h.wlt b.f.toNat (by omega) h1
    have hwb2 := h.wlo b.f.toNat (by omega)
    have hne : b.t.toNat ≠ a := fun e => by
      rw [e] at hl2 h2
      have := hf a _ ha hl2
      rw [h.zero] at h2
      omega
    have hnf : was b.f.toNat + b.m ≠ far := by unfold far; omega
    have hsf : ∀ x, x < 8 → was x ≠ far → s.sm x ≠ far := fun x hx hw0 => by
      have := h.le x hx
      have h9 := h.wle x hx
      intro e
      exact hw0 (by omega)
    refine ⟨fun x => if x = b.t.toNat then k else R x, ?_⟩
    have hu : ∀ x, upd1 s.sm b.t.toNat (was b.f.toNat + b.m) x = if x = b.t.toNat then was b.f.toNat + b.m else s.sm x := fun x => rfl
    have hub : ∀ x, upd1 s.by_ b.t.toNat i x = if x = b.t.toNat then i else s.by_ x := fun x => rfl
    refine ⟨fun x hx hn => ?_, h.wrow, fun x hx => ?_, h.wle, fun x hx hlt => ?_, fun x hx hge => ?_, fun x hx => ?_, ?_, fun x hx hxa hn => ?_, h.wlt, h.wlo, fun x hx hn => ?_, fun x hx => ?_⟩ <;> simp only [hu, hub] at *
    · by_cases e : x = b.t.toNat
      · rw [if_pos e] at hn ⊢; subst e; exact ⟨_, hl2, hs2⟩
      · rw [if_neg e] at hn ⊢; exact h.row x hx hn
    · have := h.le x hx
      split
      · rename_i e; subst e; omega
      · exact this
    · by_cases e : x = b.t.toNat
      · rw [if_pos e] at hlt; omega
      · rw [if_neg e] at hlt ⊢; exact h.same x hx hlt
    · by_cases e : x = b.t.toNat
      · rw [if_pos e]; subst e; have := h.le b.t.toNat (by omega); omega
      · rw [if_neg e] at hge ⊢; exact h.new x hx hge
    · split
      · exact Nat.le_refl _
      · exact h.rle x hx
    · rw [if_neg (fun e => hne e.symm)]; exact h.zero
    · by_cases e : x = b.t.toNat
      · subst e
        simp only [if_true] at hn ⊢
        by_cases ef : b.f.toNat = b.t.toNat
        · -- the bound leads from the event to itself: it cannot have made the sum less
          exfalso
          have hl3 := Row.one (L := L) hb
          rw [← ef] at hl3
          have h5 := hf b.f.toNat [b] (by omega) hl3
          simp only [sumW] at h5
          have h6 := h.le b.t.toNat (by omega)
          rw [← ef] at h6 h2
          omega
        · refine ⟨b, hi, rfl, ?_, ?_, ?_⟩
          · rw [if_neg ef]; exact hsf _ (by omega) h1
          · rw [if_neg ef]; have := h.le b.f.toNat (by omega); omega
          · rw [if_neg ef, if_neg ef]
            intro hge
            have := h.new b.f.toNat (by omega) hge
            omega
      · rw [if_neg e] at hn
        obtain ⟨c, c1, c2, c3, c4, c5⟩ := h.led x hx hxa hn
        refine ⟨c, by rw [if_neg e]; exact c1, c2, ?_, ?_, ?_⟩
        · split
          · exact hnf
          · exact c3
        · rw [if_neg e]
          split
          · rename_i e2; rw [e2] at c4; omega
          · exact c4
        · rw [if_neg e, if_neg e]
          by_cases e2 : c.f.toNat = b.t.toNat
          · rw [if_pos e2, if_pos e2]; intro _; rw [e2] at c4; omega
          · rw [if_neg e2, if_neg e2]; exact c5
    · by_cases e : x = b.t.toNat
      · rw [if_pos e]; omega
      · rw [if_neg e] at hn ⊢; exact h.slt x hx hn
    · by_cases e : x = b.t.toNat
      · rw [if_pos e]; omega
      · rw [if_neg e]; exact h.slo x hx
  · have hr : bstep was s (i, b) = s := by unfold bstep; rw [if_neg hc]
    rw [hr]
    exact ⟨R, h⟩
/-- What is known between two rounds. -/
structure BI (L : List Bd) (a : Nat) (s : RS) (R : Nat → Nat) (k : Nat) : Prop where
  row : ∀ x, x < 8 → s.sm x ≠ far → ∃ l, Row L a x l ∧ sumW l = s.sm x
  le : ∀ x, x < 8 → s.sm x ≤ far
  rle : ∀ x, x < 8 → R x ≤ k
  zero : s.sm a = 0
  led : ∀ x, x < 8 → x ≠ a → s.sm x ≠ far → ∃ b, L[s.by_ x]? = some b ∧ b.t.toNat = x ∧ s.sm b.f.toNat ≠ far ∧ s.sm b.f.toNat + b.m ≤ s.sm x ∧ (R x ≤ R b.f.toNat → s.sm b.f.toNat + b.m < s.sm x)
  slt : ∀ x, x < 8 → s.sm x ≠ far → s.sm x ≤ 1000 * (k : Int)
  slo : ∀ x, x < 8 → -(1000 * (k : Int)) ≤ s.sm x
theorem BI.start (L : List Bd) {a : Nat} (ha : a < 8) : BI L a (BS0 a) (fun _ => 0) 0 := by
  refine ⟨fun x hx hn => ?_, fun x hx => ?_, fun _ _ => Nat.le_refl _, by simp [BS0], fun x hx hxa hn => ?_, fun x hx hn => ?_, fun x hx => ?_⟩ <;> simp only [BS0] at *
  · by_cases e : x = a
    · subst e; exact ⟨[], Row.nil _ _, by simp [sumW]⟩
    · rw [if_neg e] at hn; exact absurd rfl hn
  · unfold far; split <;> omega
  · rw [if_neg hxa] at hn; exact absurd rfl hn
  · by_cases e : x = a
    · rw [if_pos e]; omega
    · rw [if_neg e] at hn; exact absurd rfl hn
  · unfold far; split <;> omega
theorem BI.open_ {L : List Bd} {a : Nat} {s : RS} {R : Nat → Nat} {k : Nat} (h : BI L a s R k) : BG L a s.sm s R (k + 1) :=
  ⟨h.row, h.row, fun _ _ => Int.le_refl _, h.le, fun _ _ _ => rfl, fun x hx hge => by have := h.rle x hx; omega, fun x hx => Nat.le_succ_of_le (h.rle x hx), h.zero, h.led, fun x hx hn => by have := h.slt x hx hn; omega, fun x hx => by have := h.slo x hx; omega, fun x hx hn => by have := h.slt x hx hn; omega, fun x hx => by have := h.slo x hx; omega⟩
theorem BG.close {L : List Bd} {a : Nat} {was : Nat → Int} {s : RS} {R : Nat → Nat} {k : Nat} (h : BG L a was s R k) : BI L a s R k :=
  ⟨h.row, fun x hx => by have := h.le x hx; have := h.wle x hx; omega, h.rle, h.zero, h.led, h.slt, h.slo⟩
theorem BG.pass {L : List Bd} (hL : ∀ b ∈ L, b.ok) (hf : Fine L) {a : Nat} (ha : a < 8) {was : Nat → Int} {k : Nat} (hk : 1 ≤ k) (hk2 : k ≤ 100) : ∀ (m i : Nat) {s : RS} {R : Nat → Nat}, i + m = L.length → BG L a was s R k → ∃ R', BG L a was (bpass was s ((numFrom 0 L).drop i)) R' k := by
  intro m
  induction m with
  | zero =>
    intro i s R hi h
    rw [numFrom_dropEnd L 0 _ (by omega)]
    exact ⟨R, h⟩
  | succ m ih =>
    intro i s R hi h
    obtain ⟨b, hb⟩ := get_of_lt L i (by omega)
    rw [numFrom_get L 0 i b hb, Nat.zero_add]
    obtain ⟨R', h'⟩ := h.step hL hf ha hk hk2 hb
    exact ih (i + 1) (by omega) h'
theorem BI.runs {L : List Bd} (hL : ∀ b ∈ L, b.ok) (hf : Fine L) {a : Nat} (ha : a < 8) : ∀ n, n ≤ 99 → ∃ R, BI L a (brun (numFrom 0 L) n (BS0 a)) R n := by
  intro n
  induction n with
  | zero => exact fun _ => ⟨_, BI.start L ha⟩
  | succ n ih =>
    intro hn
    obtain ⟨R, h⟩ := ih (by omega)
    rw [brun_snoc]
    obtain ⟨R', h'⟩ := BG.pass hL hf ha (by omega) (by omega) L.length 0 (by omega) h.open_
    rw [List.drop_zero] at h'
    exact ⟨R', h'.close⟩

/-! ### All rows of so many bounds have been seen -/
theorem bstep_le (was : Nat → Int) (s : RS) (p : Nat × Bd) (x : Nat) : (bstep was s p).sm x ≤ s.sm x := by
  unfold bstep
  split
  · rename_i h
    show upd1 _ _ _ x ≤ _
    unfold upd1
    split
    · rename_i e; rw [e]; omega
    · exact Int.le_refl _
  · exact Int.le_refl _
theorem bpass_le (was : Nat → Int) : ∀ (M : List (Nat × Bd)) (s : RS) (x : Nat), (bpass was s M).sm x ≤ s.sm x := by
  intro M
  induction M with
  | nil => exact fun s x => Int.le_refl _
  | cons p M ih => exact fun s x => Int.le_trans (ih _ x) (bstep_le was s p x)
theorem bpass_has (was : Nat → Int) : ∀ (M : List (Nat × Bd)) (s : RS) (p : Nat × Bd), p ∈ M → was p.2.f.toNat ≠ far → (bpass was s M).sm p.2.t.toNat ≤ was p.2.f.toNat + p.2.m := by
  intro M
  induction M with
  | nil => intro s p h; cases h
  | cons q M ih =>
    intro s p h hw
    rcases List.mem_cons.1 h with rfl | h
    · refine Int.le_trans (bpass_le was M _ _) ?_
      unfold bstep
      split
      · show upd1 _ _ _ _ ≤ _
        unfold upd1
        rw [if_pos rfl]; exact Int.le_refl _
      · rename_i hc
        have : ¬ was p.2.f.toNat + p.2.m < s.sm p.2.t.toNat := fun e => hc ⟨hw, e⟩
        omega
    · exact ih _ p h hw
theorem mem_numFrom {L : List Bd} {b : Bd} (h : b ∈ L) : ∃ i, (i, b) ∈ numFrom 0 L := by
  have : b ∈ (numFrom 0 L).map (·.2) := by rw [numFrom_snd']; exact h
  obtain ⟨⟨i, x⟩, h1, h2⟩ := List.mem_map.1 this
  simp only at h2
  subst h2
  exact ⟨i, h1⟩
theorem brun_row {L : List Bd} (hL : ∀ b ∈ L, b.ok) {a : Nat} : ∀ (n : Nat) {x : Nat} {l : List Bd}, n ≤ 1000 → Row L a x l → l.length ≤ n → (brun (numFrom 0 L) n (BS0 a)).sm x ≤ sumW l := by
  intro n
  induction n with
  | zero =>
    intro x l _ h hl
    obtain rfl : l = [] := List.eq_nil_of_length_eq_zero (by omega)
    have := h.end_
    simp only [endW] at this
    subst this
    simp [brun, BS0, sumW]
  | succ n ih =>
    intro x l hn h hl
    rw [brun_snoc]
    by_cases hne : l = []
    · subst hne
      exact Int.le_trans (bpass_le _ _ _ _) (ih (by omega) h (by simp))
    · obtain ⟨m, y, rfl, hy, hm, rfl⟩ := row_snoc_inv h hne
      simp only [List.length_append, List.length_cons, List.length_nil] at hl
      have h1 := ih (by omega) hm (by omega)
      have h2 := sumW_le hL hm.mem
      obtain ⟨i, hi⟩ := mem_numFrom hy
      have h3 := bpass_has (brun (numFrom 0 L) n (BS0 a)).sm (numFrom 0 L) (brun (numFrom 0 L) n (BS0 a)) (i, y) hi (by simp only; unfold far; omega)
      rw [sumW_app]
      simp only [sumW] at *
      omega
/-- Without what comes back to where it began, among so many events. -/
theorem row_few {L : List Bd} {ev : Nat} (hL : ∀ b ∈ L, b.f.toNat < ev ∧ b.t.toNat < ev) (he : ev ≤ 8) (hf : Fine L) {a b : Nat} (ha : a < ev) : ∀ (n : Nat) {l : List Bd}, l.length ≤ n → Row L a b l → ∃ m, Row L a b m ∧ m.length ≤ ev ∧ sumW m ≤ sumW l := by
  intro n
  induction n with
  | zero => intro l hl h; exact ⟨l, h, by omega, Int.le_refl _⟩
  | succ n ih =>
    intro l hl h
    by_cases h8 : l.length ≤ ev
    · exact ⟨l, h, h8, Int.le_refl _⟩
    · have hend : ∀ {m : List Bd} {a : Nat}, (∀ x ∈ m, x ∈ L) → a < ev → endW a m < ev := by
        intro m
        induction m with
        | nil => exact fun _ h => h
        | cons x m ihm => exact fun hm _ => ihm (fun y hy => hm y (by simp [hy])) (hL x (hm x (by simp))).2
      obtain ⟨i, j, hij, hj, hE⟩ := pigeon (fun i => endW a (l.take i)) ev (fun i _ => hend (fun x hx => h.mem x (List.mem_of_mem_take hx)) ha)
      have e1 : l = l.take i ++ (l.drop i).take (j - i) ++ l.drop j := by
        rw [List.append_assoc, show l.drop j = (l.drop i).drop (j - i) by rw [List.drop_drop]; congr 1; omega, List.take_append_drop, List.take_append_drop]
      have e2 : l.take j = l.take i ++ (l.drop i).take (j - i) := by
        have := List.take_add (l := l) (i := i) (j := j - i)
        rwa [show i + (j - i) = j by omega] at this
      have hc := h.chn
      rw [e1, chn_app, chn_app] at hc
      obtain ⟨⟨c1, c2⟩, c3⟩ := hc
      have hend2 := h.end_
      rw [e1, endW_app, endW_app] at hend2
      rw [endW_app] at c3
      rw [e2, endW_app] at hE
      have r1 : Row L a (endW a (l.take i)) (l.take i) := ⟨fun x hx => h.mem x (List.mem_of_mem_take hx), c1, rfl⟩
      have r2 : Row L (endW a (l.take i)) (endW a (l.take i)) ((l.drop i).take (j - i)) := ⟨fun x hx => h.mem x (List.mem_of_mem_drop (List.mem_of_mem_take hx)), c2, hE.symm⟩
      have r3 : Row L (endW a (l.take i)) b (l.drop j) := ⟨fun x hx => h.mem x (List.mem_of_mem_drop hx), by rw [← hE] at c3; exact c3, by rw [← hE] at hend2; exact hend2⟩
      have hv : endW a (l.take i) < ev := hend (fun x hx => h.mem x (List.mem_of_mem_take hx)) ha
      have h0 := hf _ _ (by omega) r2
      obtain ⟨m, hm, h7, hs⟩ := ih (l := l.take i ++ l.drop j) (by simp; omega) (r1.app r3)
      refine ⟨m, hm, h7, ?_⟩
      rw [e1]
      simp only [sumW_app] at *
      omega

/-! ### Back from an event -/
/-- The row from a to b, from its last bound to its first one. -/
def endB (L : List Bd) (ev a : Nat) : RS := brun (numFrom 0 L) ev (BS0 a)
def rowBack (L : List Bd) (ev a b : Nat) : List Int := (pathR (predR L (endB L ev a)) a 8 b).map fun x => ((endB L ev a).by_ x : Int)
def rowL (L : List Bd) (ev a b : Nat) : List Int := (rowBack L ev a b).reverse
theorem path_to {f : Nat → Nat} {x a : Nat} {j : Nat} (hj : iterN f j x = a) (hm : ∀ i, i < j → iterN f i x ≠ a) : ∀ (m k : Nat), k + m = j → ∀ n, m ≤ n → pathR f a n (iterN f k x) = (List.range m).map fun i => iterN f (k + i) x := by
  intro m
  induction m with
  | zero =>
    intro k h2 n _
    rw [show k = j by omega, hj]
    cases n with
    | zero => rfl
    | succ n => unfold pathR; rw [if_pos rfl]; rfl
  | succ m ih =>
    intro k h2 n hn
    cases n with
    | zero => omega
    | succ n =>
      unfold pathR
      rw [if_neg (hm k (by omega)), ← iterN_succ f k x, ih (k + 1) (by omega) n (by omega), List.range_succ_eq_map]
      simp only [List.map_cons, Nat.add_zero, List.map_map]
      congr 1
      refine List.map_congr_left fun i _ => ?_
      show iterN f (k + 1 + i) x = iterN f (k + (i + 1)) x
      congr 1; omega
structure RowOK (L : List Bd) (ev a b : Nat) (g : Int) : Prop where
  len : (rowL L ev a b).length ≤ 7
  in_ : ∀ i ∈ rowL L ev a b, 0 ≤ i ∧ i < (L.length : Int)
  nodup : (rowL L ev a b).Nodup
  sum : alongC L a 0 (rowL L ev a b) = some ((b : Int), g)
  /-- the way back, for the walk -/
  back : ∃ k, k ≤ 7 ∧ iterN (predR L (endB L ev a)) k b = a ∧ ∀ i, i < k → iterN (predR L (endB L ev a)) i b ≠ a ∧ iterN (predR L (endB L ev a)) i b < 8 ∧ ∃ x, L[(endB L ev a).by_ (iterN (predR L (endB L ev a)) i b)]? = some x ∧ x.f = (iterN (predR L (endB L ev a)) (i + 1) b : Int)
theorem row_ok {c : Cs} (h0 : checkC c = 0) (hf : Fine c.all) {a b : Nat} (ha : (a : Int) < c.ev) (hb : (b : Int) < c.ev) (hn : gapsM allT c a b ≠ far) : RowOK c.all c.ev.toNat a b (gapsM allT c a b) := by
  have hev := checkC_ev h0
  have hL := checkC_bd h0
  have hfb : Fine (belL allT c) := by rw [belL_all]; exact hf
  have hevb := (checkC_ok h0).2.2.1
  obtain ⟨R, hI⟩ := BI.runs hL hf (a := a) (by omega) c.ev.toNat (by omega)
  have hsb : (endB c.all c.ev.toNat a).sm b ≤ gapsM allT c a b := by
    obtain ⟨l, hl, hs⟩ := gap_row h0 (a := a) (b := b) (by omega) (by omega) hn
    rw [belL_all] at hl
    obtain ⟨m, hm, hm8, hms⟩ := row_few (ev := c.ev.toNat) (fun x hx => by have := evOK_get hevb hx; omega) (by omega) hf (by omega) l.length (Nat.le_refl _) hl
    have := brun_row hL c.ev.toNat (by omega) hm hm8
    show (brun _ _ _).sm b ≤ _
    omega
  have hgn := gap_near h0 hf (a := a) (b := b) (by omega) (by omega) hn
  have hend : brun (numFrom 0 c.all) c.ev.toNat (BS0 a) = endB c.all c.ev.toNat a := rfl
  rw [hend] at hI
  have hrowdef : rowL c.all c.ev.toNat a b = ((pathR (predR c.all (endB c.all c.ev.toNat a)) a 8 b).map fun x => ((endB c.all c.ev.toNat a).by_ x : Int)).reverse := rfl
  have hback : ∀ (k : Nat), k ≤ 7 → iterN (predR c.all (endB c.all c.ev.toNat a)) k b = a → (∀ i, i < k → iterN (predR c.all (endB c.all c.ev.toNat a)) i b ≠ a ∧ iterN (predR c.all (endB c.all c.ev.toNat a)) i b < 8 ∧ ∃ x, c.all[(endB c.all c.ev.toNat a).by_ (iterN (predR c.all (endB c.all c.ev.toNat a)) i b)]? = some x ∧ x.f = (iterN (predR c.all (endB c.all c.ev.toNat a)) (i + 1) b : Int)) → (rowL c.all c.ev.toNat a b).length ≤ 7 → (∀ i ∈ rowL c.all c.ev.toNat a b, 0 ≤ i ∧ i < (c.all.length : Int)) → (rowL c.all c.ev.toNat a b).Nodup → alongC c.all a 0 (rowL c.all c.ev.toNat a b) = some ((b : Int), gapsM allT c a b) → RowOK c.all c.ev.toNat a b (gapsM allT c a b) :=
    fun k h1 h2 h3 h4 h5 h6 h7 => ⟨h4, h5, h6, h7, k, h1, h2, h3⟩
  rw [hrowdef] at hback
  have hgle : ∀ l, Row c.all a b l → gapsM allT c a b ≤ sumW l := fun l hl => by
    rw [← belL_all] at hl
    exact gap_le h0 hfb (by omega) (by omega) hl
  generalize gapsM allT c a b = g at *
  generalize endB c.all c.ev.toNat a = s at *
  have ha8 : a < 8 := by omega
  have hb8 : b < 8 := by omega
  generalize c.all = L at *
  have hL0 : ∀ x ∈ L, 0 ≤ x.f ∧ 0 ≤ x.t := fun x hx => ⟨(hL x hx).1.1, (hL x hx).2.1.1⟩
  have hpred : ∀ x, x < 8 → x ≠ a → s.sm x ≠ far → predR L s x < 8 ∧ s.sm (predR L s x) ≠ far ∧ ∃ y, L[s.by_ x]? = some y ∧ y.t = (x : Int) ∧ y.f = (predR L s x : Int) ∧ s.sm (predR L s x) + y.m ≤ s.sm x ∧ (R x ≤ R (predR L s x) → s.sm (predR L s x) + y.m < s.sm x) := fun x hx hxa hxf => by
    obtain ⟨y, h1, h2, h3, h4, h5⟩ := hI.led x hx hxa hxf
    obtain ⟨⟨f0, f8⟩, ⟨t0, t8⟩, _⟩ := hL y (List.mem_of_getElem? h1)
    have hp : predR L s x = y.f.toNat := by unfold predR; rw [h1]; rfl
    rw [hp]
    exact ⟨by omega, h3, y, h1, by omega, by omega, h4, h5⟩
  obtain ⟨u, hu⟩ : ∃ u : Nat → Nat, u = fun i => iterN (predR L s) i b := ⟨_, rfl⟩
  have hui : ∀ i, iterN (predR L s) i b = u i := fun i => by rw [hu]
  have hus : ∀ i, u (i + 1) = predR L s (u i) := fun i => by rw [← hui, ← hui, iterN_succ]
  have hu0 : u 0 = b := by rw [← hui]; rfl
  have hstay : ∀ i, (∀ q, q < i → u q ≠ a) → u i < 8 ∧ s.sm (u i) ≠ far := by
    intro i
    induction i with
    | zero => intro _; rw [hu0]; exact ⟨hb8, by unfold far; omega⟩
    | succ i ih =>
      intro h
      obtain ⟨h1, h2⟩ := ih (fun q hq => h q (by omega))
      obtain ⟨p1, p2, _⟩ := hpred (u i) h1 (h i (by omega)) h2
      rw [hus]; exact ⟨p1, p2⟩
  have hstep : ∀ i, (∀ q, q ≤ i → u q ≠ a) → ∃ y, L[s.by_ (u i)]? = some y ∧ y.t = (u i : Int) ∧ y.f = (u (i + 1) : Int) ∧ s.sm (u (i + 1)) + y.m ≤ s.sm (u i) ∧ (R (u i) ≤ R (u (i + 1)) → s.sm (u (i + 1)) + y.m < s.sm (u i)) := fun i h => by
    obtain ⟨h1, h2⟩ := hstay i (fun q hq => h q (by omega))
    obtain ⟨_, _, y, h3⟩ := hpred (u i) h1 (h i (Nat.le_refl _)) h2
    rw [hus]; exact ⟨y, h3⟩
  have hcyc : ∀ i j, i < j → (∀ q, q < j → u q ≠ a) → u i ≠ u j := by
    intro i j hij hq he
    obtain ⟨v, hv⟩ : ∃ v : Nat → Nat, v = fun m => u (i + m) := ⟨_, rfl⟩
    have hvi : ∀ m, u (i + m) = v m := fun m => by rw [hv]
    have hvb : ∀ m, m < j - i → ∃ y, L[s.by_ (v m)]? = some y ∧ y.t = (v m : Int) ∧ y.f = (v (m + 1) : Int) ∧ s.sm (v (m + 1)) + y.m ≤ s.sm (v m) ∧ (R (v m) ≤ R (v (m + 1)) → s.sm (v (m + 1)) + y.m < s.sm (v m)) := fun m hm => by
      have := hstep (i + m) (fun q hqq => hq q (by omega))
      rw [show i + m + 1 = i + (m + 1) by omega, hvi, hvi] at this
      exact this
    have hsum : ∀ m, m ≤ j - i → sumBy L s v m ≤ s.sm (v 0) - s.sm (v m) ∧ (sumBy L s v m < s.sm (v 0) - s.sm (v m) ∨ R (v m) + m ≤ R (v 0)) := by
      intro m
      induction m with
      | zero => intro _; exact ⟨by simp [sumBy], .inr (Nat.le_refl _)⟩
      | succ m ih =>
        intro hm
        obtain ⟨h1, h2⟩ := ih (by omega)
        obtain ⟨y, y1, y2, y3, y4, y5⟩ := hvb m (by omega)
        have e : sumBy L s v (m + 1) = sumBy L s v m + y.m := by simp [sumBy, y1]
        rw [e]
        refine ⟨by omega, ?_⟩
        rcases h2 with h2 | h2
        · left; omega
        · rcases Nat.lt_or_ge (R (v (m + 1))) (R (v m)) with h3 | h3
          · right; omega
          · left; have := y5 h3; omega
    have hd0 : v (j - i) = v 0 := by
      rw [← hvi, ← hvi, show i + (j - i) = j by omega]; exact he.symm
    have hal := along_back (L := L) (s := s) (u := v) (k := j - i) (fun m hm => by obtain ⟨y, q1, q2, q3, _⟩ := hvb m hm; exact ⟨y, q1, q2, q3⟩) (j - i) (Nat.le_refl _) 0
    obtain ⟨l, hl, hls, _⟩ := along_row hL0 hal
    rw [hd0, Int.toNat_natCast] at hl
    have hv8 : v 0 < 8 := by rw [← hvi]; exact (hstay i (fun q hqq => hq q (by omega))).1
    have h5 := hf _ l hv8 hl
    obtain ⟨g1, g2⟩ := hsum (j - i) (Nat.le_refl _)
    rw [hd0] at g1 g2
    omega
  have hleast : ∀ n, (∃ k, k ≤ n ∧ u k = a) → ∃ k, k ≤ n ∧ u k = a ∧ ∀ i, i < k → u i ≠ a := by
    intro n
    induction n with
    | zero => rintro ⟨k, hk, e⟩; exact ⟨k, hk, e, fun i hi => by omega⟩
    | succ n ih =>
      rintro ⟨k, hk, e⟩
      by_cases hx : ∃ k, k ≤ n ∧ u k = a
      · obtain ⟨k, k1, k2, k3⟩ := ih hx
        exact ⟨k, by omega, k2, k3⟩
      · exact ⟨k, hk, e, fun i hi e2 => hx ⟨i, by omega, e2⟩⟩
  have hmeet : ∃ k, k ≤ 8 ∧ u k = a := by
    by_cases hx : ∃ k, k ≤ 8 ∧ u k = a
    · exact hx
    · exfalso
      have hno : ∀ q, q ≤ 8 → u q ≠ a := fun q hq e => hx ⟨q, hq, e⟩
      obtain ⟨i, j, hij, hj, he⟩ := pigeon u 8 (fun i hi => (hstay i (fun q hq => hno q (by omega))).1)
      exact hcyc i j hij (fun q hq => hno q (by omega)) he
  obtain ⟨k, k8, hk, hmin⟩ := hleast 8 hmeet
  have k7 : k ≤ 7 := by
    rcases Nat.lt_or_ge k 8 with h | h
    · omega
    · exfalso
      obtain ⟨i, j, hij, hj, he⟩ := pigeon u 8 (fun i hi => (hstay i (fun q hq => hmin q (by omega))).1)
      exact hcyc i j hij (fun q hq => hmin q (by omega)) he
  have hpath : pathR (predR L s) a 8 b = (List.range k).map u := by
    have := path_to (f := predR L s) (x := b) (a := a) (j := k) (by rw [hui]; exact hk) (fun i hi => by rw [hui]; exact hmin i hi) k 0 (by omega) 8 (by omega)
    rw [show iterN (predR L s) 0 b = b from rfl] at this
    rw [this]
    refine List.map_congr_left fun i _ => ?_
    rw [Nat.zero_add, hui]
  have hst : ∀ i, i < k → ∃ y, L[s.by_ (u i)]? = some y ∧ y.t = (u i : Int) ∧ y.f = (u (i + 1) : Int) ∧ s.sm (u (i + 1)) + y.m ≤ s.sm (u i) := fun i hi => by
    obtain ⟨y, h1, h2, h3, h4, _⟩ := hstep i (fun q hq => hmin q (by omega))
    exact ⟨y, h1, h2, h3, h4⟩
  have hal := along_back (L := L) (s := s) (u := u) (k := k) (fun m hm => by obtain ⟨y, q1, q2, q3, _⟩ := hst m hm; exact ⟨y, q1, q2, q3⟩) k (Nat.le_refl _) 0
  have hsum : ∀ m, m ≤ k → sumBy L s u m ≤ s.sm (u 0) - s.sm (u m) := by
    intro m
    induction m with
    | zero => intro _; simp [sumBy]
    | succ m ih =>
      intro hm
      have h1 := ih (by omega)
      obtain ⟨y, y1, y2, y3, y4⟩ := hst m (by omega)
      have e : sumBy L s u (m + 1) = sumBy L s u m + y.m := by simp [sumBy, y1]
      rw [e]; omega
  have hsk := hsum k (Nat.le_refl _)
  rw [hk, hu0, hI.zero] at hsk
  rw [hk, hu0, Int.zero_add] at hal
  have hg : sumBy L s u k = g := by
    obtain ⟨l, hl, hls, _⟩ := along_row hL0 hal
    rw [Int.toNat_natCast] at hl
    have := hgle l hl
    omega
  rw [hg] at hal
  have hrl : (pathR (predR L s) a 8 b).map (fun x => (s.by_ x : Int)) = (List.range k).map fun i => (s.by_ (u i) : Int) := by
    rw [hpath, List.map_map]; rfl
  rw [hrl] at hback
  refine hback k k7 (by rw [hui]; exact hk) (fun i hi => ?_) (by simp; omega) (fun i hi => ?_) ?_ hal
  · obtain ⟨y, y1, _, y3, _⟩ := hst i hi
    rw [hui, hui]
    exact ⟨hmin i hi, (hstay i (fun q hq => hmin q (by omega))).1, y, y1, y3⟩
  · rw [List.mem_reverse, List.mem_map] at hi
    obtain ⟨m, hm, rfl⟩ := hi
    obtain ⟨y, y1, _⟩ := hst m (List.mem_range.1 hm)
    have := (List.getElem?_eq_some_iff.1 y1).1
    omega
  · unfold List.Nodup
    rw [List.pairwise_reverse, List.pairwise_map]
    refine List.Pairwise.imp_of_mem ?_ List.pairwise_lt_range
    intro m n hm hn' hmn e0
    have e := e0.symm
    have hm' := List.mem_range.1 hm
    have hn2 := List.mem_range.1 hn'
    obtain ⟨x, x1, x2, _⟩ := hst m hm'
    obtain ⟨y, y1, y2, _⟩ := hst n hn2
    have e1 : s.by_ (u m) = s.by_ (u n) := by omega
    rw [e1, y1] at x1
    cases x1
    exact hcyc m n hmn (fun q hq => hmin q (by omega)) (by omega)
end Go.Proofs.Ytgnjhaomlbkgcaa
