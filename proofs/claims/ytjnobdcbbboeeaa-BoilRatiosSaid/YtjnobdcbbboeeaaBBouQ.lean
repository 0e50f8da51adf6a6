/- Plain: what BoilBounds asks. -/
import Derived.Test.YtjnobdcbbboeeaaH3
import Derived.Test.YtjnobdcbbboeeaaBShnP
namespace Go.Proofs.Ytjnobdcbbboeeaa
open Go Go.RowKit Go.Shelf
set_option linter.unusedVariables false
set_option linter.unusedSimpArgs false

/-- How many of the first weighings lie below a month, or over it. -/
def cntU (h : Hs) (m : Int) (k : Nat) : Nat := ((h.ws.take k).filter fun w => undH h w.mo m).length
def cntO (h : Hs) (m : Int) (k : Nat) : Nat := ((h.ws.take k).filter fun w => undH h m w.mo).length
theorem cntU_next {h : Hs} {m : Int} {k : Nat} {x : Wg} (hx : h.ws[k]? = some x) : cntU h m (k + 1) = cntU h m k + if undH h x.mo m = true then 1 else 0 := by
  unfold cntU
  rw [List.take_add_one, hx, List.filter_append, List.length_append]
  by_cases e : undH h x.mo m = true <;> simp [e]
theorem cntO_next {h : Hs} {m : Int} {k : Nat} {x : Wg} (hx : h.ws[k]? = some x) : cntO h m (k + 1) = cntO h m k + if undH h m x.mo = true then 1 else 0 := by
  unfold cntO
  rw [List.take_add_one, hx, List.filter_append, List.length_append]
  by_cases e : undH h m x.mo = true <;> simp [e]
theorem cntU_end (h : Hs) (m : Int) : cntU h m h.ws.length = (lowsH h m).length := by unfold cntU lowsH; rw [List.take_length, List.length_map]
theorem cntO_end (h : Hs) (m : Int) : cntO h m h.ws.length = (upsH h m).length := by unfold cntO upsH; rw [List.take_length, List.length_map]
theorem cntU_le (h : Hs) (m : Int) (k : Nat) : cntU h m k ≤ k := by
  unfold cntU
  exact Nat.le_trans (List.length_filter_le _ _) (by rw [List.length_take]; omega)
theorem cntO_le (h : Hs) (m : Int) (k : Nat) : cntO h m k ≤ k := by
  unfold cntO
  exact Nat.le_trans (List.length_filter_le _ _) (by rw [List.length_take]; omega)
theorem sho_add {h : Hs} (k : HsOK h) (hl : h.ws.length ≤ 13) (ha : agrH h = true) {m : Int} (hm : 0 ≤ m ∧ m < h.mo) {lo hi : Rt} (b : BndOK h m lo hi) {n d : Int} (hn : 1 ≤ n ∧ n ≤ 1000) (hd : 1 ≤ d ∧ d ≤ 1000) (h1 : lo.1 * d ≤ n * lo.2) (h2 : n * hi.2 ≤ hi.1 * d) : shoE (addH h (ptW m n d)) = 0 := by
  have ku : HsOK (addH h (ptW m n d)) := add_ok k hl ⟨hm, ⟨⟨hd.1, Int.le_refl _, hd.2⟩, hn.1, Int.le_refl _, hn.2⟩⟩
  have e := bnd_in k ha b (n := n) (d := d) (by omega) (by omega)
  unfold shoE
  rw [if_neg (by simp [checkH_of ku]), if_neg (by rw [e, decide_eq_true ⟨h1, h2⟩]; simp)]
theorem sho_out {h : Hs} (k : HsOK h) (ha : agrH h = true) {m : Int} {lo hi : Rt} (b : BndOK h m lo hi) {n d : Int} (hc : checkH (addH h (ptW m n d)) = 0) (ho : n * lo.2 < lo.1 * d ∨ hi.1 * d < n * hi.2) : shoE (addH h (ptW m n d)) = 7 := by
  have ku := checkH_ok hc
  have mm := ku.ms (ptW m n d) (by unfold addH; simp)
  have m1 : 1 ≤ d := mm.1.1
  have m2 : 1 ≤ n := mm.2.1
  have e := bnd_in k ha b (n := n) (d := d) (by omega) (by omega)
  unfold shoE
  rw [if_neg (by simp [hc]), if_pos (by rw [e]; exact decide_eq_false (by omega))]
/-- With a ratio at a bound. -/
structure AtB (h : Hs) (m : Int) (i : Nat) (r : Rt) : Prop where
  sz : (1 ≤ r.1 ∧ r.1 ≤ 1000) ∧ 1 ≤ r.2 ∧ r.2 ≤ 1000
  at_ : shoE (addH h (ptW m r.1 r.2)) = 0
  lo : i = 0 → checkH (addH h (ptW m (r.1 - 1) r.2)) = 0 → shoE (addH h (ptW m (r.1 - 1) r.2)) = 7
  hi : i = 1 → checkH (addH h (ptW m (r.1 + 1) r.2)) = 0 → shoE (addH h (ptW m (r.1 + 1) r.2)) = 7
structure BouOK (h : Hs) (m : Int) : Prop where
  e06 : bndE h m = 6 ∨ bndE h m = 0
  iff : bndE h m = 0 ↔ 0 < cntU h m h.ws.length ∧ 0 < cntO h m h.ws.length
  atL : bndE h m = 0 → AtB h m 0 (bndL h m)
  atU : bndE h m = 0 → AtB h m 1 (bndU h m)
  more : ∀ w, WgOK h w → bndE (addH h w) m = 7 ∨ (bndE (addH h w) m = 6 ∧ bndE h m = 6) ∨ (bndE (addH h w) m = 0 ∧ (bndE h m = 0 → leR (bndL h m) (bndL (addH h w) m) ∧ leR (bndU (addH h w) m) (bndU h m)))
theorem bou_ok {M K : Nat} {h : Hs} {real : List Rt} (md : MadeH M K 0 h real) (hK : K ≤ 13) {m : Int} (hm : 0 ≤ m ∧ m < h.mo) : BouOK h m := by
  have k := md.ok
  have ha := made_agr md
  have hl : h.ws.length ≤ 13 := by have := md.ws; omega
  have h06 := bndE_is k ha hm
  refine { e06 := h06, iff := ?_, atL := fun e => ?_, atU := fun e => ?_, more := fun w hw => ?_ }
  · rw [cntU_end, cntO_end, bndE_cases k hm, if_neg (by rw [ha]; simp)]
    by_cases q : (lowsH h m).length = 0 ∨ (upsH h m).length = 0
    · rw [if_pos q]; omega
    · rw [if_neg q]; omega
  · have b := bnd_ok k e
    have l := b.le1000 k
    have p1 := b.pl
    unfold Rpos at p1
    obtain ⟨v, v1, v2, v3⟩ := low_mem.1 b.isl
    obtain ⟨u, u1, u2, u3⟩ := up_mem.1 b.ish
    have le : leR (bndL h m) (bndU h m) := by rw [← v3, ← u3]; exact agr_mem.1 ha v v1 u u1 (und_trans v2 u2)
    exact { sz := ⟨⟨p1.1, l.1⟩, p1.2, l.2.1⟩, at_ := sho_add k hl ha hm b ⟨p1.1, l.1⟩ ⟨p1.2, l.2.1⟩ (Int.le_refl _) le,
            lo := fun _ hc => sho_out k ha b hc (.inl (by rw [Int.sub_mul]; omega)), hi := fun e => absurd e (by decide) }
  · have b := bnd_ok k e
    have l := b.le1000 k
    have p1 := b.ph
    unfold Rpos at p1
    obtain ⟨v, v1, v2, v3⟩ := low_mem.1 b.isl
    obtain ⟨u, u1, u2, u3⟩ := up_mem.1 b.ish
    have le : leR (bndL h m) (bndU h m) := by rw [← v3, ← u3]; exact agr_mem.1 ha v v1 u u1 (und_trans v2 u2)
    exact { sz := ⟨⟨p1.1, l.2.2.1⟩, p1.2, l.2.2.2⟩, at_ := sho_add k hl ha hm b ⟨p1.1, l.2.2.1⟩ ⟨p1.2, l.2.2.2⟩ le (Int.le_refl _),
            lo := fun e => absurd e (by decide), hi := fun _ hc => sho_out k ha b hc (.inr (by rw [Int.add_mul]; omega)) }
  · have ku := add_ok k hl hw
    have hm2 : 0 ≤ m ∧ m < (addH h w).mo := hm
    have c := bndE_cases ku hm2
    by_cases a2 : agrH (addH h w) = false
    · rw [if_pos a2] at c; exact .inl c
    · rw [if_neg a2] at c
      by_cases q : (lowsH (addH h w) m).length = 0 ∨ (upsH (addH h w) m).length = 0
      · rw [if_pos q] at c
        refine .inr (.inl ⟨c, ?_⟩)
        rw [bndE_cases k hm, if_neg (by rw [ha]; simp), if_pos]
        rcases q with q | q
        · exact .inl (len_zero (add_lows m).1 q)
        · exact .inr (len_zero (add_lows m).2 q)
      · rw [if_neg q] at c
        exact .inr (.inr ⟨c, fun e => bnd_more k ku e c⟩)
end Go.Proofs.Ytjnobdcbbboeeaa
