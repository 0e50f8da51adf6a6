/- The plain law of WarnTold. No program stands here but in what is imported. -/
import Derived.Test.YtgnjhaomlbkgcaaWMadeP
import Derived.Test.YtgnjhaomlbkgcaaPair
namespace Go.Proofs.Ytgnjhaomlbkgcaa
open Go Go.RowKit
set_option linter.unusedVariables false
set_option linter.unusedSimpArgs false

def toldBC (c : Cs) (b : Bd) : Int := if checkC c ≠ 0 then checkC c else if bdsC c.ev [b] ≠ 0 then bdsC c.ev [b] else if b.f = b.t then 5 else if c.bs.length = 20 then 2 else 0
def Cs.add (c : Cs) (b : Bd) : Cs := { c with bs := c.bs ++ [b] }
theorem mem_rowO {g : Mat} {x k : Nat} {p : Int × Int} : p ∈ rowO g x k ↔ ∃ y : Nat, y < k ∧ verdictM g x y = 1 ∧ p = ((x : Int), (y : Int)) := by
  unfold rowO
  simp only [List.mem_map, List.mem_filter, List.mem_range, beq_iff_eq]
  exact ⟨fun ⟨y, ⟨h1, h2⟩, h3⟩ => ⟨y, h1, h2, h3.symm⟩, fun ⟨y, h1, h2, h3⟩ => ⟨y, ⟨h1, h2⟩, h3.symm⟩⟩
theorem mem_orderL {c : Cs} {p : Int × Int} (hev : 0 ≤ c.ev) : p ∈ orderL c ↔ ∃ x y : Nat, (x : Int) < c.ev ∧ (y : Int) < c.ev ∧ verdictM (gapsM allT c) x y = 1 ∧ p = ((x : Int), (y : Int)) := by
  unfold orderL orderTo
  rw [show rowO (gapsM allT c) c.ev.toNat 0 = [] by simp [rowO], List.append_nil, List.mem_flatMap]
  constructor
  · rintro ⟨x, hx, hp⟩
    obtain ⟨y, h1, h2, h3⟩ := mem_rowO.1 hp
    have := List.mem_range.1 hx
    exact ⟨x, y, by omega, by omega, h2, h3⟩
  · rintro ⟨x, y, hx, hy, hv, hp⟩
    exact ⟨x, List.mem_range.2 (by omega), mem_rowO.2 ⟨y, by omega, hv, hp⟩⟩
theorem add_all_mem {c : Cs} {b x : Bd} : x ∈ (c.add b).all ↔ x ∈ c.all ∨ x = b := by
  rw [all_mem, all_mem]
  unfold Cs.add
  simp only [List.mem_append, List.mem_singleton]
  constructor
  · rintro ((h | h) | h)
    · exact .inl (.inl h)
    · exact .inr h
    · exact .inl (.inr h)
  · rintro ((h | h) | h)
    · exact .inl (.inl h)
    · exact .inr h
    · exact .inl (.inr h)
theorem add_check {evm bm cm : Nat} {lo l2 h2 : Int} {c : Cs} {real : List Int} {b : Bd} (h : MadeOK evm bm cm lo c real) (hlo : lo ≤ 0) (hlo2 : -500 ≤ lo) (he : evm ≤ 8) (hb : bm < 20) (hc : cm ≤ 8) (hl2 : -500 ≤ l2) (hh2 : h2 ≤ 500) (hbd : bdMade c.ev real l2 h2 b) : checkC (c.add b) = 0 := by
  have hb1 : (c.bs ++ [b]).length = c.bs.length + 1 := by simp
  refine checkC_of ⟨by show 1 ≤ c.ev; have := h.ev2; omega, by show c.ev ≤ 8; have := h.evm; omega⟩ (by show (c.bs ++ [b]).length ≤ 20; have := h.bsl; omega) h.wi (Nat.le_trans h.cll hc) (fun x hx => ⟨by have := (h.cl x hx).2.1; omega, (h.cl x hx).1⟩) (fun x hq => ?_)
  have r1 := getD_real h.real_ x.t.toNat
  have r2 := getD_real h.real_ x.f.toNat
  rcases add_all_mem.1 hq with h1 | rfl
  · obtain ⟨p1, p2, p3, p4, p5⟩ := h.all_ hlo x h1
    exact ⟨p1, p2, p3, by omega, by omega⟩
  · obtain ⟨p1, p2, p3, p4, p5⟩ := hbd
    exact ⟨p1, p2, p3, by omega, by omega⟩
theorem add_told {evm bm cm : Nat} {lo l2 h2 : Int} {c : Cs} {real : List Int} {b : Bd} (h : MadeOK evm bm cm lo c real) (hlo : lo ≤ 0) (hlo2 : -500 ≤ lo) (he : evm ≤ 8) (hb : bm < 20) (hc : cm ≤ 8) (hl2 : -500 ≤ l2) (hh2 : h2 ≤ 500) (hbd : bdMade c.ev real l2 h2 b) : toldBC c b = 0 := by
  have h0 := h.check hlo hlo2 he (by omega) hc
  obtain ⟨p1, p2, p3, p4, p5⟩ := hbd
  have r1 := getD_real h.real_ b.t.toNat
  have r2 := getD_real h.real_ b.f.toNat
  have e1 : bdsC c.ev [b] = 0 := by
    unfold bdsC
    have a1 : limOK [b] = true := by simp only [limOK, List.all_cons, List.all_nil, Bool.and_true, inB_iff]; omega
    have a2 : evOK c.ev [b] = true := by simp only [evOK, List.all_cons, List.all_nil, Bool.and_true, Bool.and_eq_true, inB_iff]; omega
    rw [a1, a2]; rfl
  unfold toldBC
  rw [if_neg (by rw [h0]; simp), if_neg (by rw [e1]; simp), if_neg p3, if_neg (by have := h.bsl; omega)]
theorem told_ok {c : Cs} (h0 : checkC c = 0) : toldC c = 0 ∨ toldC c = 7 := by
  unfold toldC
  rw [if_pos h0]
  cases clashM (gapsM allT c) <;> simp
theorem told_fine {c : Cs} (h : toldC c = 0) : Fine c.all := by
  have h0 := toldC_check h
  unfold toldC at h
  rw [if_pos h0] at h
  have h1 : clashM (gapsM allT c) = false := by cases hq : clashM (gapsM allT c) with
    | false => rfl
    | true => rw [hq] at h; cases h
  have := fine_of h0 h1
  rwa [belL_all] at this
structure ToldLaw (c u : Cs) (real : List Int) (x y : Nat) : Prop where
  be : (beforeOf c x y).2 = 0
  bu : (beforeOf u x y).2 = 0
  keep : (beforeOf c x y).1 ≠ 0 → (beforeOf u x y).1 = (beforeOf c x y).1
  gap : (gapOf c x y).2 = 0 → (gapOf u x y).2 = 0 ∧ (gapOf u x y).1 ≤ (gapOf c x y).1
  yes : (beforeOf c x y).1 = 1 ↔ ((x : Int), (y : Int)) ∈ orderL c
  yesu : (beforeOf u x y).1 = 1 ↔ ((x : Int), (y : Int)) ∈ orderL u
theorem verdict_keep {c u : Cs} (h0 : checkC c = 0) (u0 : checkC u = 0) (hf : Fine c.all) (uf : Fine u.all) (hsub : ∀ x ∈ c.all, x ∈ u.all) {x y : Nat} (hx : x < 8) (hy : y < 8) :
    (gapsM allT c x y ≠ far → gapsM allT u x y ≠ far ∧ gapsM allT u x y ≤ gapsM allT c x y) ∧ (verdictM (gapsM allT c) x y ≠ 0 → verdictM (gapsM allT u) x y = verdictM (gapsM allT c) x y) := by
  have hf' : Fine (belL allT c) := by rw [belL_all]; exact hf
  have uf' : Fine (belL allT u) := by rw [belL_all]; exact uf
  have key : ∀ a b : Nat, a < 8 → b < 8 → gapsM allT c a b ≠ far → gapsM allT u a b ≠ far ∧ gapsM allT u a b ≤ gapsM allT c a b := fun a b ha hb hn => by
    obtain ⟨l, hl, hs⟩ := gap_row h0 ha hb hn
    have hl2 : Row (belL allT u) a b l := hl.mono (fun z hz => by rw [belL_all] at hz ⊢; exact hsub z hz)
    have := gap_le u0 uf' ha hb hl2
    exact ⟨gap_lt_far u0 uf' ha hb hl2, by omega⟩
  refine ⟨key x y hx hy, fun hv => ?_⟩
  unfold verdictM at hv ⊢
  by_cases h1 : gapsM allT c y x < 0
  · have := key y x hy hx (by unfold far; omega)
    rw [if_pos (by omega), if_pos h1]
  · rw [if_neg h1] at hv ⊢
    by_cases h2 : gapsM allT c x y ≤ 0
    · have k2 := key x y hx hy (by unfold far; omega)
      have h3 : ¬ gapsM allT u y x < 0 := fun hlt => by
        obtain ⟨l1, r1, s1⟩ := gap_row u0 hx hy k2.1
        obtain ⟨l2, r2, s2⟩ := gap_row u0 hy hx (by unfold far; omega : gapsM allT u y x ≠ far)
        have := uf' x _ hx (r1.app r2)
        rw [sumW_app] at this
        omega
      rw [if_neg h3, if_pos (by omega), if_pos h2]
    · rw [if_neg h2] at hv; exact absurd rfl hv
theorem told_law {c u : Cs} {real : List Int} (h0 : checkC c = 0) (u0 : checkC u = 0) (hf : Fine c.all) (uf : Fine u.all) (hev : u.ev = c.ev) (hsub : ∀ x ∈ c.all, x ∈ u.all) (hev8 : c.ev ≤ 8) {x y : Nat} (hx : (x : Int) < c.ev) (hy : (y : Int) < c.ev) : ToldLaw c u real x y := by
  have K := verdict_keep h0 u0 hf uf hsub (show x < 8 by omega) (show y < 8 by omega)
  have ux : (x : Int) < u.ev := by omega
  have uy : (y : Int) < u.ev := by omega
  have e1 := before_is h0 hf hx hy
  have e2 := before_is u0 uf ux uy
  have e3 := gap_is h0 hf hx hy
  have e4 := gap_is u0 uf ux uy
  have hme : ∀ d : Cs, checkC d = 0 → d.ev = c.ev → (verdictM (gapsM allT d) x y = 1 ↔ ((x : Int), (y : Int)) ∈ orderL d) := fun d hd he => by
    have := (checkC_ev hd).1
    rw [mem_orderL (by omega)]
    constructor
    · intro h; exact ⟨x, y, by omega, by omega, h, rfl⟩
    · rintro ⟨x', y', _, _, h, e⟩
      have e5 : (x : Int) = x' := congrArg Prod.fst e
      have e6 : (y : Int) = y' := congrArg Prod.snd e
      have e7 : x = x' := by omega
      have e8 : y = y' := by omega
      rw [e7, e8]; exact h
  refine ⟨by rw [e1], by rw [e2], by rw [e1, e2]; exact K.2, ?_, by rw [e1]; exact hme c h0 rfl, by rw [e2]; exact hme u u0 hev⟩
  rw [e3, e4]
  by_cases hfar : gapsM allT c x y = far
  · rw [if_pos hfar]; intro h; cases h
  · obtain ⟨k1, k2⟩ := K.1 hfar
    rw [if_neg hfar, if_neg k1]
    exact fun _ => ⟨rfl, k2⟩
theorem order_real {c : Cs} {real : List Int} (h0 : checkC c = 0) (ht : TruthOf c.all (fun k => real.getD k 0)) {p : Int × Int} (hp : p ∈ orderL c) : real.getD p.1.toNat 0 < real.getD p.2.toNat 0 := by
  have hev := (checkC_ev h0)
  obtain ⟨x, y, hx, hy, hv, rfl⟩ := (mem_orderL (by omega)).1 hp
  have hg : gapsM allT c y x < 0 := by
    unfold verdictM at hv
    split at hv
    · assumption
    · split at hv <;> cases hv
  have ht' : TruthOf (belL allT c) (fun k => real.getD k 0) := by rw [belL_all]; exact ht
  have := ht'.gap h0 (a := y) (b := x) (by omega) (by omega) (by unfold far; omega)
  simp only [Int.toNat_natCast]
  omega
theorem rowO_len (g : Mat) (x k : Nat) : (rowO g x k).length ≤ k := by
  unfold rowO
  rw [List.length_map]
  exact Nat.le_trans (List.length_filter_le _ _) (by simp)
theorem flat_rows (g : Mat) (n : Nat) : ∀ a : Nat, ((List.range a).flatMap (fun x => rowO g x n)).length ≤ a * n := by
  intro a
  induction a with
  | zero => simp
  | succ a ih =>
    rw [List.range_succ, List.flatMap_append, List.length_append, Nat.succ_mul]
    have := rowO_len g a n
    simp only [List.flatMap_cons, List.flatMap_nil, List.append_nil]
    omega
theorem orderL_len {c : Cs} (h : c.ev ≤ 8) : (orderL c).length ≤ 64 := by
  unfold orderL orderTo
  rw [show rowO (gapsM allT c) c.ev.toNat 0 = [] by simp [rowO], List.append_nil]
  refine Nat.le_trans (flat_rows _ _ _) ?_
  have h1 : c.ev.toNat ≤ 8 := by omega
  exact Nat.mul_le_mul h1 h1
theorem order_sub {c u : Cs} (h0 : checkC c = 0) (u0 : checkC u = 0) (hf : Fine c.all) (uf : Fine u.all) (hev : u.ev = c.ev) (hsub : ∀ x ∈ c.all, x ∈ u.all) {p : Int × Int} (hp : p ∈ orderL c) : p ∈ orderL u := by
  have e1 := checkC_ev h0
  have e2 := checkC_ev u0
  obtain ⟨x, y, hx, hy, hv, rfl⟩ := (mem_orderL (by omega)).1 hp
  refine (mem_orderL (by omega)).2 ⟨x, y, by omega, by omega, ?_, rfl⟩
  rw [(verdict_keep h0 u0 hf uf hsub (show x < 8 by omega) (show y < 8 by omega)).2 (by rw [hv]; decide), hv]
end Go.Proofs.Ytgnjhaomlbkgcaa
