/- The plain side of FogDecides: the law's errors and places are the program's. No program stands here. -/
import Derived.Test.YtpbpcplboikpcaaGreatGa
import Derived.Test.YtpbpcplboikpcaaGreatFRef12
namespace Go.Proofs.YtpbpcplboikpcaaGreat
open Go Go.RowKit
set_option linter.unusedVariables false
set_option linter.unusedSimpArgs false

/-- The error of a cart, then of a minute. -/
def mcE (f : Fg) (k m : Int) : Int := if cartE f k ≠ 0 then cartE f k else minX f m
theorem cartE_bad {f : Fg} {T k : Int} (h : checkF f = T) (hT : T ≠ 0) : cartE f k = T := by unfold cartE; rw [h, if_neg hT]
theorem cartE_in {f : Fg} {k : Int} (h : checkF f = 0) : cartE f k = cartX f k := by unfold cartE; rw [if_pos h]; rfl
theorem mcE_bad {f : Fg} {T k m : Int} (h : cartE f k = T) (hT : T ≠ 0) : mcE f k m = T := by unfold mcE; rw [h, if_pos hT]
theorem mcE_in {f : Fg} {k m : Int} (h : cartE f k = 0) : mcE f k m = minX f m := by unfold mcE; rw [h, if_neg (by decide)]
theorem mcE_ok {f : Fg} {k m : Int} (h : mcE f k m = 0) : cartE f k = 0 ∧ miOK f m = true := by
  unfold mcE minX at h
  by_cases h1 : cartE f k = 0
  · rw [if_neg (by simp [h1])] at h
    refine ⟨h1, ?_⟩
    cases hm : miOK f m
    · rw [hm] at h; simp at h
    · rfl
  · rw [if_pos h1] at h; exact absurd h h1
theorem mc_apart {f : Fg} {k m : Int} {ch : List (Int × Int)} {W : Int} (h : mcE f k m = W) (hW : W ≠ 0) : apartE f k m ch = W := by
  unfold mcE minX at h
  unfold apartE
  by_cases h1 : cartE f k = 0
  · rw [if_neg (by simp [h1])] at h ⊢
    cases hm : miOK f m
    · rw [hm] at h; simpa using h
    · rw [hm] at h; exact absurd h.symm (by simpa using hW)
  · rw [if_pos h1] at h ⊢; exact h
theorem mc_placed {f : Fg} {k m n : Int} {W : Int} (h : mcE f k m = W) (hW : W ≠ 0) : placedE f k m n = W := by
  unfold mcE minX at h
  unfold placedE
  by_cases h1 : cartE f k = 0
  · rw [if_neg (by simp [h1])] at h ⊢
    cases hm : miOK f m
    · rw [hm] at h; simpa using h
    · rw [hm] at h; exact absurd h.symm (by simpa using hW)
  · rw [if_pos h1] at h ⊢; exact h
theorem mc_apart0 {f : Fg} {k m : Int} {ch : List (Int × Int)} (h : mcE f k m = 0) : apartE f k m ch = if ch.all (fun c => plOK f c.1) then (if ch.all (fun c => inB c.2 0 7) then (if lostF (farM f) f (ctAt f k) then 7 else 0) else 3) else 1 := by
  obtain ⟨h1, h2⟩ := mcE_ok h
  unfold apartE
  rw [if_neg (by simp [h1]), h2]
  simp
theorem mc_placed0 {f : Fg} {k m n : Int} (h : mcE f k m = 0) : placedE f k m n = if inB n 0 7 then (if lostF (farM f) f (ctAt f k) then 7 else 0) else 3 := by
  obtain ⟨h1, h2⟩ := mcE_ok h
  unfold placedE
  rw [if_neg (by simp [h1]), h2]
  simp
/-- The places that the law takes. -/
def plsL (f : Fg) (k m : Int) : List Int := if mcE f k m = 0 ∧ lostF (farM f) f (ctAt f k) = false then natI (canN (farM f) f (ctAt f k) m.toNat) else []
theorem pls_apart {f : Fg} {k m : Int} {ch : List (Int × Int)} (h : apartE f k m ch = 0) : apartL f k m ch = pairsM (farM f) ch (plsL f k m) ∧ mcE f k m = 0 ∧ (ch.all fun c => plOK f c.1) = true ∧ (ch.all fun c => inB c.2 0 7) = true := by
  have hm : mcE f k m = 0 := by
    by_cases e : mcE f k m = 0
    · exact e
    · rw [mc_apart rfl e] at h; exact absurd h e
  have h2 := mc_apart0 (ch := ch) hm
  rw [h] at h2
  cases h3 : ch.all fun c => plOK f c.1
  · rw [h3] at h2; simp at h2
  · cases h4 : ch.all fun c => inB c.2 0 7
    · rw [h3, h4] at h2; simp at h2
    · cases h5 : lostF (farM f) f (ctAt f k)
      · refine ⟨?_, hm, rfl, rfl⟩
        unfold apartL plsL
        rw [if_pos h, if_pos ⟨hm, h5⟩]
      · rw [h3, h4, h5] at h2; simp at h2
theorem pls_placed {f : Fg} {k m n : Int} (h : placedE f k m n = 0) : placedL f k m n = plsL f k m ∧ mcE f k m = 0 ∧ n ≤ 7 := by
  have hm : mcE f k m = 0 := by
    by_cases e : mcE f k m = 0
    · exact e
    · rw [mc_placed rfl e] at h; exact absurd h e
  have h2 := mc_placed0 (n := n) hm
  rw [h] at h2
  cases h3 : inB n 0 7
  · rw [h3] at h2; simp at h2
  · cases h5 : lostF (farM f) f (ctAt f k)
    · refine ⟨?_, hm, (inB_iff.1 h3).2⟩
      unfold placedL plsL
      rw [if_pos h, if_pos ⟨hm, h5⟩]
    · rw [h3, h5] at h2; simp at h2
theorem pls_lt {f : Fg} {k m : Int} (h8 : f.pl ≤ 8) : (∀ x ∈ plsL f k m, 0 ≤ x ∧ x < f.pl) ∧ (plsL f k m).length ≤ 8 := by
  unfold plsL
  split
  · refine ⟨fun x hx => ?_, ?_⟩
    · unfold natI at hx
      obtain ⟨q, hq, rfl⟩ := List.mem_map.1 hx
      rw [canN_canP] at hq
      have := List.mem_range.1 (List.mem_filter.1 hq).1
      omega
    · rw [natI_len, canN_canP]
      exact Nat.le_trans (canP_len _ _ _ _ _) (by omega)
  · exact ⟨fun x hx => (by cases hx), by simp⟩
theorem ask_ref {f : Fg} (hok : FogOK f) {l : List Int} {n : Int} (hl : ∀ x ∈ l, 0 ≤ x ∧ x < f.pl) (hn : n ≤ 7) : askS (hearH f n) l f.pl.toNat = askS (heardH (farM f) n) l f.pl.toNat := by
  refine askS_congr fun p hp x hx => ?_
  have h1 := hok.pl
  have h2 := hl x hx
  unfold hearH heardH heardM
  rw [hearR_is hok (by omega) (by omega) hn]
  rfl
theorem twins_pls {f : Fg} {k m n : Int} (h : placedE f k m n = 0) : twinsV f k m n = twinsM (farM f) f (plsL f k m) n := by
  unfold twinsV; rw [if_pos h, (pls_placed h).1]
theorem decide_pls {f : Fg} {k m n : Int} (h : placedE f k m n = 0) : decideE f k m n = (if (decideM (farM f) f (plsL f k m) n).isSome then 0 else 6) ∧ decideL f k m n = (decideM (farM f) f (plsL f k m) n).getD [] := by
  have h1 : decideE f k m n = (if (decideM (farM f) f (plsL f k m) n).isSome then 0 else 6) := by
    unfold decideE; rw [if_neg (by simp [h]), (pls_placed h).1]
  refine ⟨h1, ?_⟩
  unfold decideL
  rw [h1, (pls_placed h).1]
  cases decideM (farM f) f (plsL f k m) n <;> simp
theorem decide_bad {f : Fg} {k m n W : Int} (h : placedE f k m n = W) (hW : W ≠ 0) : decideE f k m n = W ∧ decideL f k m n = [] ∧ twinsV f k m n = [] ∧ askV f k m n = (0, 0) := by
  have h1 : decideE f k m n = W := by unfold decideE; rw [h, if_pos hW]
  exact ⟨h1, by unfold decideL; rw [h1, if_neg hW], by unfold twinsV; rw [h, if_neg hW], by unfold askV; rw [h, if_neg hW]⟩
theorem apart_bad {f : Fg} {k m W : Int} {ch : List (Int × Int)} (h : apartE f k m ch = W) (hW : W ≠ 0) : apartL f k m ch = [] := by unfold apartL; rw [h, if_neg hW]
theorem ask_pls {f : Fg} {k m n : Int} (hok : FogOK f) (h : placedE f k m n = 0) : askV f k m n = askS (hearH f n) (plsL f k m) f.pl.toNat := by
  unfold askV
  obtain ⟨h1, -, h3⟩ := pls_placed h
  rw [if_pos h, h1, ask_ref hok (pls_lt hok.pl.2).1 h3]
theorem all_next {p : Int × Int → Bool} {l : List (Int × Int)} {j : Nat} {x : Int × Int} (hx : l[j]? = some x) : (l.take (j + 1)).all p = ((l.take j).all p && p x) := by
  rw [List.take_succ_eq_append_getElem (List.getElem?_eq_some_iff.1 hx).1, (List.getElem?_eq_some_iff.1 hx).2, List.all_append]
  simp
theorem pairs_len (g : Mat) (ch : List (Int × Int)) : ∀ (l : List Int), (pairsM g ch l).length ≤ l.length * l.length
  | [] => by simp [pairsM]
  | p :: l => by
    have h := pairs_len g ch l
    have h2 := List.length_filter_le (fun q => !toldBy g ch p q) l
    simp only [pairsM, List.length_append, List.length_map, List.length_cons]
    rw [Nat.add_mul, Nat.mul_add]
    omega
theorem dec_lens (f : Fg) (k m n : Int) (ch : List (Int × Int)) : (apartL f k m ch).length ≤ 9223372036854775807 ∧ (twinsV f k m n).length ≤ 9223372036854775807 ∧ (decideL f k m n).length ≤ 9223372036854775807 := by
  have sq : ∀ a : Nat, a ≤ 8 → a * a ≤ 64 := fun a ha => Nat.mul_le_mul ha ha
  have hpl : mcE f k m = 0 → f.pl ≤ 8 := fun h => (checkF_ok (cartE_ok (mcE_ok h).1).1).pl.2
  refine ⟨?_, ?_, ?_⟩
  · by_cases h : apartE f k m ch = 0
    · obtain ⟨e, hm, -⟩ := pls_apart h
      rw [e]
      have h1 := pairs_len (farM f) ch (plsL f k m)
      have h2 := sq _ (pls_lt (k := k) (m := m) (hpl hm)).2
      omega
    · rw [apart_bad rfl h]; simp
  · by_cases h : placedE f k m n = 0
    · obtain ⟨-, hm, -⟩ := pls_placed h
      rw [twins_pls h]
      unfold twinsM
      have h1 := pairs_len (farM f) (loudM (placesL f) n) (plsL f k m)
      have h2 := sq _ (pls_lt (k := k) (m := m) (hpl hm)).2
      omega
    · rw [(decide_bad rfl h).2.2.1]; simp
  · by_cases h : placedE f k m n = 0
    · obtain ⟨-, hm, -⟩ := pls_placed h
      rw [(decide_pls h).2]
      cases hd : decideM (farM f) f (plsL f k m) n with
      | none => simp
      | some s =>
        unfold decideM at hd
        have h1 := (fewL_some hd).1.len
        have h2 := hpl hm
        simp only [Option.getD_some]
        rcases h1 with h1 | h1
        · omega
        · rw [h1]; simp
    · rw [(decide_bad rfl h).2.1]; simp
end Go.Proofs.YtpbpcplboikpcaaGreat
