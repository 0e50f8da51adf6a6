/- What the reference's Gaps and Clash compute, and that it is what a case at work computes. No program stands here. -/
import Derived.Test.YtgnjhaomlbkgcaaWRowP
namespace Go.Proofs.Ytgnjhaomlbkgcaa
open Go Go.RowKit
set_option linter.unusedVariables false
set_option linter.unusedSimpArgs false

/-! ### One row of the gaps -/
def rel1 (r : Nat → Int) (b : Bd) : Nat → Int := fun t => if t = b.t.toNat ∧ r b.f.toNat ≠ far then min (r t) (r b.f.toNat + b.m) else r t
def relL (r : Nat → Int) (L : List Bd) : Nat → Int := L.foldl rel1 r
def rrn (L : List Bd) : Nat → (Nat → Int) → Nat → Int
  | 0, r => r
  | k + 1, r => rrn L k (relL r L)
def E8 (r r' : Nat → Int) : Prop := ∀ x, x < 8 → r x = r' x
theorem E8.refl (r : Nat → Int) : E8 r r := fun _ _ => rfl
theorem E8.symm {r r' : Nat → Int} (h : E8 r r') : E8 r' r := fun x hx => (h x hx).symm
theorem E8.trans {a b c : Nat → Int} (h : E8 a b) (k : E8 b c) : E8 a c := fun x hx => (h x hx).trans (k x hx)
theorem relax1_at (g : Mat) (b : Bd) (a : Nat) : relax1 g b a = rel1 (g a) b := rfl
theorem relaxL_at : ∀ (L : List Bd) (g : Mat) (a : Nat), relaxL g L a = relL (g a) L := by
  intro L
  induction L with
  | nil => exact fun _ _ => rfl
  | cons b L ih => intro g a; exact ih (relax1 g b) a
theorem rnds_at (L : List Bd) : ∀ (n : Nat) (g : Mat) (a : Nat), rnds L n g a = rrn L n (g a) := by
  intro n
  induction n with
  | zero => exact fun _ _ => rfl
  | succ n ih => intro g a; show rnds L n (relaxL g L) a = rrn L n (relL (g a) L); rw [ih, relaxL_at]
theorem rel1_congr {r r' : Nat → Int} (h : E8 r r') {b : Bd} (hb : b.ok) : E8 (rel1 r b) (rel1 r' b) := by
  obtain ⟨⟨h1, h2⟩, ⟨h3, h4⟩, _⟩ := hb
  intro t ht
  unfold rel1
  rw [h t ht, h b.f.toNat (by omega)]
theorem relL_congr : ∀ {L : List Bd} {r r' : Nat → Int}, (∀ b ∈ L, b.ok) → E8 r r' → E8 (relL r L) (relL r' L) := by
  intro L
  induction L with
  | nil => exact fun _ h => h
  | cons b L ih => exact fun hb h => ih (fun x hx => hb x (by simp [hx])) (rel1_congr h (hb b (by simp)))
theorem rrn_congr {L : List Bd} (hb : ∀ b ∈ L, b.ok) : ∀ (n : Nat) {r r' : Nat → Int}, E8 r r' → E8 (rrn L n r) (rrn L n r') := by
  intro n
  induction n with
  | zero => exact fun h => h
  | succ n ih => exact fun h => ih (relL_congr hb h)
theorem rrn_fix {L : List Bd} (hb : ∀ b ∈ L, b.ok) {r : Nat → Int} (h : E8 (relL r L) r) : ∀ n, E8 (rrn L n r) r := by
  intro n
  induction n with
  | zero => exact E8.refl r
  | succ n ih => exact (rrn_congr hb n h).trans ih
theorem rrn_add (L : List Bd) : ∀ (m n : Nat) (r : Nat → Int), rrn L (m + n) r = rrn L n (rrn L m r) := by
  intro m
  induction m with
  | zero => intro n r; rw [Nat.zero_add]; rfl
  | succ m ih => intro n r; rw [show m + 1 + n = (m + n) + 1 by omega]; exact ih n (relL r L)
theorem rel1_le (r : Nat → Int) (b : Bd) (x : Nat) : rel1 r b x ≤ r x := by
  unfold rel1
  split
  · omega
  · exact Int.le_refl _
theorem relL_le : ∀ (L : List Bd) (r : Nat → Int) (x : Nat), relL r L x ≤ r x := by
  intro L
  induction L with
  | nil => exact fun _ _ => Int.le_refl _
  | cons b L ih => exact fun r x => Int.le_trans (ih (rel1 r b) x) (rel1_le r b x)

/-! ### The reference's round -/
structure GS where
  sm : Nat → Int
  is : Nat → Bool
  less : Bool
def gstep (s : GS) (b : Bd) : GS :=
  if s.is b.f.toNat = true ∧ (s.is b.t.toNat = false ∨ s.sm b.f.toNat + b.m < s.sm b.t.toNat) then ⟨upd1 s.sm b.t.toNat (s.sm b.f.toNat + b.m), upd1 s.is b.t.toNat true, true⟩ else s
def gpass (s : GS) (L : List Bd) : GS := L.foldl gstep s
def GS.start (s : GS) : GS := ⟨s.sm, s.is, false⟩
def GS0 (a : Nat) : GS := ⟨fun _ => 0, fun x => decide (x = a), false⟩
def grun (L : List Bd) : Nat → GS → GS × Bool
  | 0, s => (s, false)
  | n + 1, s => if (gpass s.start L).less then grun L n (gpass s.start L) else (gpass s.start L, true)
def dis (s : GS) (x : Nat) : Int := if s.is x then s.sm x else far
def GLow (K : Int) (s : GS) : Prop := ∀ x, x < 8 → -(1000 * K) ≤ s.sm x ∧ s.sm x ≤ 1000 * K
theorem GLow.mono {K K' : Int} {s : GS} (h : GLow K s) (hk : K ≤ K') : GLow K' s := fun x hx => ⟨by have := (h x hx).1; omega, by have := (h x hx).2; omega⟩
theorem GLow.step {K : Int} {s : GS} (h : GLow K s) {b : Bd} (hb : b.ok) (hK : 0 ≤ K) : GLow (K + 1) (gstep s b) := by
  obtain ⟨⟨h1, h2⟩, ⟨h3, h4⟩, h5, h6⟩ := hb
  intro x hx
  have e1 := h x hx
  have e2 := h b.f.toNat (by omega)
  unfold gstep
  split
  · simp only [upd1]; split <;> omega
  · omega
theorem GLow.pass : ∀ {L : List Bd} {K : Int} {s : GS}, GLow K s → (∀ b ∈ L, b.ok) → 0 ≤ K → GLow (K + L.length) (gpass s L) := by
  intro L
  induction L with
  | nil => intro K s h _ _; simpa [gpass] using h
  | cons b L ih =>
    intro K s h hb hK
    have := ih (h.step (hb b (by simp)) hK) (fun x hx => hb x (by simp [hx])) (by omega)
    rw [List.length_cons, show K + ((L.length + 1 : Nat) : Int) = K + 1 + (L.length : Int) by omega]
    exact this
theorem dis_step {K : Int} {s : GS} (hl : GLow K s) (hK : K ≤ 1000000) {b : Bd} (hb : b.ok) : E8 (dis (gstep s b)) (rel1 (dis s) b) := by
  obtain ⟨⟨h1, h2⟩, ⟨h3, h4⟩, h5, h6⟩ := hb
  have e2 := hl b.f.toNat (by omega)
  have e3 := hl b.t.toNat (by omega)
  intro x hx
  by_cases hc : s.is b.f.toNat = true ∧ (s.is b.t.toNat = false ∨ s.sm b.f.toNat + b.m < s.sm b.t.toNat)
  · have hg : gstep s b = ⟨upd1 s.sm b.t.toNat (s.sm b.f.toNat + b.m), upd1 s.is b.t.toNat true, true⟩ := by unfold gstep; rw [if_pos hc]
    rw [hg]
    have hf : dis s b.f.toNat = s.sm b.f.toNat := by simp [dis, hc.1]
    have hfn : dis s b.f.toNat ≠ far := by rw [hf]; unfold far; omega
    unfold rel1
    by_cases hxt : x = b.t.toNat
    · rw [if_pos ⟨hxt, hfn⟩, hf, hxt]
      have h1 : dis ⟨upd1 s.sm b.t.toNat (s.sm b.f.toNat + b.m), upd1 s.is b.t.toNat true, true⟩ b.t.toNat = s.sm b.f.toNat + b.m := by simp [dis, upd1]
      rw [h1]
      have h2 : s.sm b.f.toNat + b.m ≤ dis s b.t.toNat := by
        unfold dis
        split
        · rename_i ht
          rcases hc.2 with h | h
          · rw [ht] at h; cases h
          · omega
        · unfold far; omega
      omega
    · rw [if_neg (fun h => hxt h.1)]
      simp [dis, upd1, hxt]
  · have hg : gstep s b = s := by unfold gstep; rw [if_neg hc]
    rw [hg]
    unfold rel1
    split
    · rename_i h
      obtain ⟨hxt, hfn⟩ := h
      have hf : s.is b.f.toNat = true := by
        cases h : s.is b.f.toNat
        · exact absurd (by simp [dis, h]) hfn
        · rfl
      have hd : dis s b.f.toNat = s.sm b.f.toNat := by simp [dis, hf]
      have ht : s.is b.t.toNat = true := by
        cases h : s.is b.t.toNat
        · exact absurd ⟨hf, .inl h⟩ hc
        · rfl
      have h2 : ¬ (s.sm b.f.toNat + b.m < s.sm b.t.toNat) := fun h => hc ⟨hf, .inr h⟩
      rw [hd, hxt]
      have : dis s b.t.toNat = s.sm b.t.toNat := by simp [dis, ht]
      omega
    · rfl
theorem step_less {K : Int} {s : GS} (hl : GLow K s) (hK : K ≤ 1000000) {b : Bd} (hb : b.ok) (hc : gstep s b ≠ s ∨ (gstep s b).less ≠ s.less) : dis (gstep s b) b.t.toNat < dis s b.t.toNat := by
  obtain ⟨⟨h1, h2⟩, ⟨h3, h4⟩, h5, h6⟩ := hb
  have e2 := hl b.f.toNat (by omega)
  have e3 := hl b.t.toNat (by omega)
  unfold gstep at *
  split at hc
  · rename_i h
    rw [if_pos h]
    simp only [dis, upd1, if_true]
    split
    · rename_i ht
      rcases h.2 with h | h
      · rw [ht] at h; cases h
      · exact h
    · unfold far; omega
  · rcases hc with h | h <;> exact absurd rfl h
theorem gpass_dis : ∀ {L : List Bd} {K : Int} {s : GS}, GLow K s → 0 ≤ K → K + L.length ≤ 1000000 → (∀ b ∈ L, b.ok) → E8 (dis (gpass s L)) (relL (dis s) L) := by
  intro L
  induction L with
  | nil => exact fun _ _ _ _ => E8.refl _
  | cons b L ih =>
    intro K s hl h0 hK hb
    simp only [List.length_cons] at hK
    have h1 := dis_step hl (by omega) (hb b (by simp))
    have h2 := ih (hl.step (hb b (by simp)) h0) (by omega) (by omega) (fun x hx => hb x (by simp [hx]))
    exact h2.trans (relL_congr (fun x hx => hb x (by simp [hx])) h1)
theorem gpass_less : ∀ {L : List Bd} {K : Int} {s : GS}, GLow K s → 0 ≤ K → K + L.length ≤ 1000000 → (∀ b ∈ L, b.ok) → (gpass s L).less = true → s.less = true ∨ ∃ x, x < 8 ∧ relL (dis s) L x < dis s x := by
  intro L
  induction L with
  | nil => exact fun _ _ _ _ h => .inl h
  | cons b L ih =>
    intro K s hl h0 hK hb h
    simp only [List.length_cons] at hK
    have hbo := hb b (by simp)
    have hL : ∀ x ∈ L, x.ok := fun x hx => hb x (by simp [hx])
    by_cases hc : gstep s b = s ∧ (gstep s b).less = s.less
    · have hr : E8 (rel1 (dis s) b) (dis s) := by
        have := dis_step hl (by omega) hbo
        rw [hc.1] at this
        exact this.symm
      have h' : (gpass s L).less = true := by
        have h2 : (gpass (gstep s b) L).less = true := h
        rw [hc.1] at h2; exact h2
      rcases ih hl h0 (by omega) hL h' with h1 | ⟨x, hx, h1⟩
      · exact .inl h1
      · refine .inr ⟨x, hx, ?_⟩
        show relL (rel1 (dis s) b) L x < _
        rw [relL_congr hL hr x hx]
        exact h1
    · have hlt := step_less hl (by omega) hbo (by
        by_cases h1 : gstep s b = s
        · exact .inr fun h2 => hc ⟨h1, h2⟩
        · exact .inl h1)
      have hbt : b.t.toNat < 8 := by obtain ⟨_, ⟨_, _⟩, _⟩ := hbo; omega
      refine .inr ⟨b.t.toNat, hbt, ?_⟩
      have h1 := dis_step hl (by omega) hbo _ hbt
      show relL (rel1 (dis s) b) L _ < _
      have := relL_le L (rel1 (dis s) b) b.t.toNat
      omega
theorem gpass_same : ∀ {L : List Bd} {s : GS}, (gpass s L).less = false → s.less = false ∧ gpass s L = s := by
  intro L
  induction L with
  | nil => exact fun h => ⟨h, rfl⟩
  | cons b L ih =>
    intro s h
    have h2 : (gpass (gstep s b) L).less = false := h
    obtain ⟨h3, h4⟩ := ih h2
    have h5 : gstep s b = s := by
      unfold gstep at h3 ⊢
      split
      · rename_i hc; rw [if_pos hc] at h3; cases h3
      · rfl
    rw [h5] at h3
    exact ⟨h3, h4.trans h5⟩
theorem dis_start (s : GS) : dis s.start = dis s := rfl
theorem grun_fine {L : List Bd} (hb : ∀ b ∈ L, b.ok) (h52 : L.length ≤ 52) : ∀ (n : Nat) {K : Int} {s s' : GS}, GLow K s → 0 ≤ K → K + 52 * n ≤ 1000000 → grun L n s = (s', true) → ∃ k, k < n ∧ E8 (dis s') (rrn L k (dis s)) ∧ E8 (relL (dis s') L) (dis s') ∧ GLow (K + 52 * n) s' := by
  intro n
  induction n with
  | zero => intro K s s' _ _ _ h; cases h
  | succ n ih =>
    intro K s s' hl h0 hK h
    have hl' : GLow K s.start := hl
    have hd := gpass_dis hl' h0 (by omega) hb
    have hp := (hl'.pass hb h0).mono (K' := K + 52) (by omega)
    unfold grun at h
    split at h
    · obtain ⟨k, h1, h2, h3, h4⟩ := ih hp (by omega) (by omega) h
      exact ⟨k + 1, by omega, h2.trans (rrn_congr hb k hd), h3, h4.mono (by omega)⟩
    · rename_i hls
      injection h with h1 _
      have hls' : (gpass s.start L).less = false := by simpa using hls
      have hsame := (gpass_same hls').2
      refine ⟨0, by omega, ?_, ?_, ?_⟩
      · rw [← h1, hsame]; exact E8.refl _
      · rw [← h1]; exact (by rw [hsame] at hd ⊢; exact hd.symm)
      · rw [← h1]; exact hp.mono (by omega)
theorem grun_not {L : List Bd} (hb : ∀ b ∈ L, b.ok) (h52 : L.length ≤ 52) : ∀ (n : Nat) {K : Int} {s : GS}, GLow K s → 0 ≤ K → K + 52 * n ≤ 1000000 → (grun L n s).2 = false → ∀ k, k < n → ∃ x, x < 8 ∧ rrn L (k + 1) (dis s) x < rrn L k (dis s) x := by
  intro n
  induction n with
  | zero => intro K s _ _ _ _ k hk; omega
  | succ n ih =>
    intro K s hl h0 hK h k hk
    have hl' : GLow K s.start := hl
    have hd := gpass_dis hl' h0 (by omega) hb
    have hp := (hl'.pass hb h0).mono (K' := K + 52) (by omega)
    unfold grun at h
    split at h
    · rename_i hls
      cases k with
      | zero =>
        rcases gpass_less hl' h0 (by omega) hb hls with h1 | h1
        · cases h1
        · exact h1
      | succ k =>
        obtain ⟨x, hx, h1⟩ := ih hp (by omega) (by omega) h k (by omega)
        refine ⟨x, hx, ?_⟩
        have e1 := rrn_congr hb (k + 1) hd x hx
        have e2 := rrn_congr hb k hd x hx
        rw [e1, e2] at h1
        exact h1
    · cases h

/-! ### Of a case -/
theorem GLow.zero (a : Nat) : GLow 0 (GS0 a) := fun x _ => by simp [GS0]
theorem dis_zero (a : Nat) : dis (GS0 a) = init0 a := by
  funext x
  by_cases h : x = a
  · subst h; simp [dis, GS0, init0]
  · have h2 : ¬ a = x := fun e => h e.symm
    simp [dis, GS0, init0, h, h2]
/-- What the reference's Gaps comes to. -/
def gapsR (tf : Int → Bool) (c : Cs) (a : Nat) : GS × Bool := grun (belL tf c) (c.ev.toNat + 1) (GS0 a)
def clashR (tf : Int → Bool) (c : Cs) : Bool := (List.range c.ev.toNat).any fun a => !(gapsR tf c a).2
theorem bel52 {tf : Int → Bool} {c : Cs} (h0 : checkC c = 0) : (belL tf c).length ≤ 52 := Nat.le_trans (bel_len' tf c) (checkC_52 h0)
theorem gapsR_is {tf : Int → Bool} {c : Cs} (h0 : checkC c = 0) {a : Nat} (hf : (gapsR tf c a).2 = true) : E8 (dis (gapsR tf c a).1) (gapsM tf c a) ∧ E8 (relL (gapsM tf c a) (belL tf c)) (gapsM tf c a) ∧ GLow 468 (gapsR tf c a).1 := by
  have hev := checkC_ev h0
  have hb := belL_ok (tf := tf) h0
  obtain ⟨k, hk, h1, h2, h3⟩ := grun_fine hb (bel52 h0) (c.ev.toNat + 1) (GLow.zero a) (by omega) (by omega) (s' := (gapsR tf c a).1) (by
    have : gapsR tf c a = ((gapsR tf c a).1, (gapsR tf c a).2) := rfl
    rw [hf] at this; exact this)
  rw [dis_zero] at h1
  have e : gapsM tf c a = rrn (belL tf c) 8 (init0 a) := rnds_at _ 8 init0 a
  have e8 : E8 (gapsM tf c a) (dis (gapsR tf c a).1) := by
    rw [e, show (8 : Nat) = k + (8 - k) by omega, rrn_add]
    exact (rrn_congr hb (8 - k) h1.symm).trans (rrn_fix hb h2 _)
  exact ⟨e8.symm, (relL_congr hb e8).trans (h2.trans e8.symm), h3.mono (by omega)⟩
theorem relL_has : ∀ {L : List Bd} {r : Nat → Int} {x : Bd}, x ∈ L → r x.f.toNat < far → relL r L x.t.toNat ≤ r x.f.toNat + x.m := by
  intro L
  induction L with
  | nil => intro r x h; cases h
  | cons y L ih =>
    intro r x h hf
    rcases List.mem_cons.1 h with rfl | h1
    · refine Int.le_trans (relL_le L _ _) ?_
      unfold rel1
      rw [if_pos ⟨rfl, by omega⟩]
      omega
    · have h2 := rel1_le r y x.f.toNat
      have := ih (r := rel1 r y) h1 (by omega)
      show relL (rel1 r y) L _ ≤ _
      omega
theorem fix_row {L : List Bd} (hL : ∀ b ∈ L, b.ok) {r : Nat → Int} (hf : E8 (relL r L) r) {a : Nat} (ha : a < 8) (h0 : r a ≤ 0) : ∀ (n : Nat) {l : List Bd} {b : Nat}, l.length = n → n ≤ 1000000 → Row L a b l → r b ≤ r a + sumW l := by
  intro n
  induction n with
  | zero =>
    intro l b hl _ h
    have := List.eq_nil_of_length_eq_zero hl
    subst this
    have := h.end_
    simp only [endW] at this
    subst this
    simp [sumW]
  | succ n ih =>
    intro l b hl hn h
    obtain ⟨m, y, rfl, hy, hm, rfl⟩ := row_snoc_inv h (by intro e; subst e; simp at hl)
    simp only [List.length_append, List.length_singleton] at hl
    have h1 := ih (by omega) (by omega) hm
    have h2 := sumW_le hL hm.mem
    have hok := hL y hy
    have hbt : y.t.toNat < 8 := by obtain ⟨_, ⟨_, _⟩, _⟩ := hok; omega
    have h3 := relL_has (r := r) hy (by unfold far; omega)
    rw [hf _ hbt] at h3
    rw [sumW_app]
    simp only [sumW]
    omega
theorem no_row {L : List Bd} {ev : Nat} (hL : ∀ b ∈ L, b.f.toNat < ev) {a b : Nat} (ha : ev ≤ a) {l : List Bd} (h : Row L a b l) : l = [] := by
  cases l with
  | nil => rfl
  | cons x l =>
    have h1 := h.chn.1
    have h2 := hL x (h.mem x (by simp))
    omega
theorem bel_ev {tf : Int → Bool} {c : Cs} (h0 : checkC c = 0) : ∀ b ∈ belL tf c, b.f.toNat < c.ev.toNat ∧ b.t.toNat < c.ev.toNat := fun b hb => by
  have := evOK_get (checkC_ok h0).2.2.1 (bel_mem' hb)
  omega
theorem gapsR_clash {tf : Int → Bool} {c : Cs} (h0 : checkC c = 0) (hall : ∀ a, a < c.ev.toNat → (gapsR tf c a).2 = true) : clashM (gapsM tf c) = false := by
  cases hc : clashM (gapsM tf c) with
  | false => rfl
  | true =>
    exfalso
    obtain ⟨a, ha, hn⟩ := clash_true hc
    obtain ⟨l, hl, hs⟩ := gap_row h0 (tf := tf) ha ha (by unfold far; omega)
    by_cases hae : a < c.ev.toNat
    · obtain ⟨_, hfix, _⟩ := gapsR_is h0 (hall a hae)
      -- a ring of few bounds
      obtain ⟨v, m, hv, hm, h8, hs2⟩ := ring_short (belL_ok h0) l.length ha (Nat.le_refl _) hl (by omega)
      have hve : v < c.ev.toNat := by
        rcases Nat.lt_or_ge v c.ev.toNat with h | h
        · exact h
        · have := no_row (fun b hb => (bel_ev h0 b hb).1) h hm
          subst this
          simp [sumW] at hs2
      obtain ⟨_, hfix, _⟩ := gapsR_is h0 (hall v hve)
      have hle := rnds_row (belL_ok (tf := tf) h0) hv 8 (by omega) hv hm h8
      have hle2 : gapsM tf c v v ≤ sumW m := hle
      have h1 := fix_row (belL_ok h0) hfix hv (by omega) m.length rfl (by omega) hm
      omega
    · have := no_row (fun b hb => (bel_ev h0 b hb).1) (by omega) hl
      subst this
      simp [sumW] at hs
      omega
theorem gapsR_all {tf : Int → Bool} {c : Cs} (h0 : checkC c = 0) (hc : clashM (gapsM tf c) = false) {a : Nat} (ha : a < c.ev.toNat) : (gapsR tf c a).2 = true := by
  cases hr : (gapsR tf c a).2 with
  | true => rfl
  | false =>
    exfalso
    have hev := checkC_ev h0
    have hf := fine_of h0 hc
    have hb := belL_ok (tf := tf) h0
    obtain ⟨x, hx, hlt⟩ := grun_not hb (bel52 h0) (c.ev.toNat + 1) (GLow.zero a) (by omega) (by omega) hr c.ev.toNat (by omega)
    rw [dis_zero] at hlt
    rw [← rnds_at, ← rnds_at] at hlt
    have hlow : Low 0 init0 := Low.init
    have hl1 := (hlow.rnds hb c.ev.toNat (by omega)) a x (by omega) hx
    have hne : rnds (belL tf c) (c.ev.toNat + 1) init0 a x ≠ far := by omega
    obtain ⟨l, hl, hs⟩ := (Sound.init (belL tf c)).rnds hb (c.ev.toNat + 1) a x (by omega) hx hne
    obtain ⟨m, hm, hml, hms⟩ := row_few (bel_ev h0) (by omega) hf ha l.length (Nat.le_refl _) hl
    have := rnds_row hb (by omega) c.ev.toNat (by omega) hx hm hml
    omega
theorem clashR_is {tf : Int → Bool} {c : Cs} (h0 : checkC c = 0) : clashR tf c = clashM (gapsM tf c) := by
  cases hc : clashM (gapsM tf c) with
  | false =>
    unfold clashR
    rw [List.any_eq_false]
    intro a ha
    rw [gapsR_all h0 hc (by simpa using ha)]
    simp
  | true =>
    cases hr : clashR tf c with
    | true => rfl
    | false =>
      unfold clashR at hr
      rw [List.any_eq_false] at hr
      have := gapsR_clash h0 (tf := tf) (fun a ha => by have := hr a (by simpa using ha); simpa using this)
      rw [hc] at this; cases this
/-- The reference's Gap of two events, if there is a truth. -/
def gapR (tf : Int → Bool) (c : Cs) (a b : Nat) : Int × Bool := ((gapsR tf c a).1.sm b, (gapsR tf c a).1.is b)
theorem gapR_is {tf : Int → Bool} {c : Cs} (h0 : checkC c = 0) (hc : clashM (gapsM tf c) = false) {a b : Nat} (ha : a < c.ev.toNat) (hb : b < 8) :
    (gapR tf c a b).2 = decide (gapsM tf c a b ≠ far) ∧ (gapsM tf c a b ≠ far → (gapR tf c a b).1 = gapsM tf c a b) := by
  obtain ⟨h1, _, h3⟩ := gapsR_is h0 (gapsR_all h0 hc ha)
  have h4 := h1 b hb
  have h5 := h3 b hb
  unfold gapR
  unfold dis at h4
  cases hi : (gapsR tf c a).1.is b
  · simp only [hi, Bool.false_eq_true, if_false] at h4
    exact ⟨by simp [← h4], fun h => absurd h4.symm h⟩
  · simp only [hi, if_true] at h4
    refine ⟨?_, fun _ => h4⟩
    rw [← h4]
    symm
    simp only [ne_eq, decide_eq_true_eq]
    unfold far; omega
end Go.Proofs.Ytgnjhaomlbkgcaa
