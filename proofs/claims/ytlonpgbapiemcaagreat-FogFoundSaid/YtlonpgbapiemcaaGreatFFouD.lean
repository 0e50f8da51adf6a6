/- What FogFound is told of Decide and Twins, and of rings. No program stands here. -/
import Derived.Test.YtlonpgbapiemcaaGreatFFouS
import Derived.Test.YtlonpgbapiemcaaGreatFRing
namespace Go.Proofs.YtlonpgbapiemcaaGreat
open Go Go.RowKit
set_option linter.unusedVariables false
set_option linter.unusedSimpArgs false

/-- What FogFound asks of the choice and of the pairs that no blast tells apart. -/
structure FouDec (f : Fg) (st : List Int) (rs : List Rp) (I Y : Nat) (LX : List Int) (E : Int) (d : List Int) (t : List (Int × Int)) : Prop where
  pl0 : placedE (oneC f st rs) 0 (I : Int) (Y : Int) = 0
  de : decideE (oneC f st rs) 0 (I : Int) (Y : Int) = E ∧ decideL (oneC f st rs) 0 (I : Int) (Y : Int) = d
  tw : twinsV (oneC f st rs) 0 (I : Int) (Y : Int) = t
  e06 : (E = 0 ∧ t.length = 0) ∨ (E = 6 ∧ 0 < t.length)
  told : E = 0 → ∀ (i j p q : Nat), i < j → LX[i]? = some (p : Int) → LX[j]? = some (q : Int) → toldTo (oneC f st rs) d (Y : Int) p q f.pl.toNat = true
  alike : ∀ (i j p q : Nat), i < j → LX[i]? = some (p : Int) → LX[j]? = some (q : Int) → memP ((p : Int), (q : Int)) t = alikeTo (oneC f st rs) (Y : Int) p q f.pl.toNat
  dl : d.length ≤ 8
  tl : t.length ≤ 64
theorem pairs_len (g : Mat) (ch : List (Int × Int)) : ∀ l : List Int, (pairsM g ch l).length ≤ l.length * l.length
  | [] => by simp [pairsM]
  | p :: l => by
    have ih := pairs_len g ch l
    have h1 := List.length_filter_le (fun q => !toldBy g ch p q) l
    unfold pairsM
    simp only [List.length_append, List.length_map, List.length_cons]
    have : (l.length + 1) * (l.length + 1) = l.length * l.length + l.length + l.length + 1 := by
      rw [Nat.add_mul, Nat.mul_add]; omega
    omega
theorem fou_dec {P M : Nat} {f : Fg} {st : List Int} {rs : List Rp} {la : List Int} {CL : Nat → List Int} (h : OneF P M (oneC f st rs) st rs la) (hQ : FouOK f st rs la CL) {I Y : Nat} (hI : I ≤ f.mi.toNat) (hY : Y ≤ 7) : ∃ E d t, FouDec f st rs I Y (CL I) E d t := by
  obtain ⟨z1, z2⟩ := one_cart (c := ⟨st, rs⟩) h.check rfl
  have hf := h.found
  have hmi : 0 ≤ f.mi ∧ f.mi ≤ 8 := h.ok.mi
  have hpl : 1 ≤ f.pl ∧ f.pl ≤ 8 := h.ok.pl
  have hmo : miOK (oneC f st rs) (I : Int) = true := by
    unfold miOK
    rw [inB_iff]
    have e1 : (oneC f st rs).mi = f.mi := rfl
    rw [e1]; omega
  have hyo : inB (Y : Int) 0 7 = true := by rw [inB_iff]; omega
  have hat := (hQ.at0 I hI).1
  have hal := (hQ.at0 I hI).2
  have hal2 : natI (canN (farM (oneC f st rs)) (oneC f st rs) ⟨st, rs⟩ I) = CL I := by
    rw [← hal]; unfold atL; rw [if_pos hat, z2, Int.toNat_natCast]
  have hpe : placedE (oneC f st rs) 0 (I : Int) (Y : Int) = 0 := by unfold placedE; rw [if_neg (fun x => x z1), hmo, hyo, z2, hf]; rfl
  have hpL : placedL (oneC f st rs) 0 (I : Int) (Y : Int) = CL I := by unfold placedL; rw [if_pos hpe, z2, Int.toNat_natCast, hal2]
  have hlen := hQ.len I
  have htw : twinsV (oneC f st rs) 0 (I : Int) (Y : Int) = twinsM (farM (oneC f st rs)) (oneC f st rs) (CL I) (Y : Int) := by unfold twinsV; rw [if_pos hpe, hpL]
  have htl : (twinsM (farM (oneC f st rs)) (oneC f st rs) (CL I) (Y : Int)).length ≤ 64 := by
    have := pairs_len (farM (oneC f st rs)) (loudM (placesL (oneC f st rs)) (Y : Int)) (CL I)
    have h2 := Nat.mul_le_mul hlen hlen
    unfold twinsM; omega
  have halike : ∀ (i j p q : Nat), i < j → (CL I)[i]? = some (p : Int) → (CL I)[j]? = some (q : Int) → memP ((p : Int), (q : Int)) (twinsM (farM (oneC f st rs)) (oneC f st rs) (CL I) (Y : Int)) = alikeTo (oneC f st rs) (Y : Int) p q f.pl.toNat := fun i j p q hij hp hq => by
    have e1 : f.pl.toNat = (oneC f st rs).pl.toNat := rfl
    rw [e1, alike_all, Bool.eq_iff_iff, Bool.not_eq_true']
    unfold memP twinsM
    rw [List.any_eq_true]
    constructor
    · rintro ⟨x, hx, e⟩
      rw [beq_iff_eq] at e
      subst e
      exact (pairs_mem hx).elim fun i h => h.elim fun j h => h.2.2.2
    · intro h
      exact ⟨_, pairs_in hij hp hq h, beq_self_eq_true _⟩
  cases e : decideM (farM (oneC f st rs)) (oneC f st rs) (CL I) (Y : Int) with
  | none =>
    have hE : decideE (oneC f st rs) 0 (I : Int) (Y : Int) = 6 := by unfold decideE; rw [if_neg (fun x => x hpe), hpL, e]; rfl
    refine ⟨6, [], _, hpe, ⟨hE, ?_⟩, htw, .inr ⟨rfl, decide_none.1 e⟩, fun h => by omega, halike, by simp, htl⟩
    unfold decideL; rw [if_neg (by rw [hE]; decide)]
  | some d =>
    have hE : decideE (oneC f st rs) 0 (I : Int) (Y : Int) = 0 := by unfold decideE; rw [if_neg (fun x => x hpe), hpL, e]; rfl
    have hd := decide_some h.ok e
    refine ⟨0, d, _, hpe, ⟨hE, ?_⟩, htw, .inl ⟨rfl, ?_⟩, fun _ i j p q hij hp hq => ?_, halike, ?_, htl⟩
    · unfold decideL; rw [if_pos hE, hpL, e]; rfl
    · refine Nat.eq_zero_of_not_pos fun x => ?_
      rw [decide_none.2 x] at e; cases e
    · have e1 : f.pl.toNat = (oneC f st rs).pl.toNat := rfl
      rw [e1]
      refine toldTo_all ?_ hd.mem
      exact pairs_nil.1 (List.isEmpty_iff.2 hd.no) i j _ _ hij hp hq
    · have h1 := hd.len
      have e1 : (oneC f st rs).pl = f.pl := rfl
      rw [e1] at h1; omega
theorem fou_ring {f : Fg} (h : FogOK f) {p q Y : Nat} (hp : p < f.pl.toNat) (hq : q < f.pl.toNat) (hY : Y ≤ 7) : ringN f p Y q = heardM (farM f) ⟨0, (p : Int), (Y : Int)⟩ q := by
  have hpl := h.pl
  rw [ringN_is h (by omega) (by omega) (by omega)]
  unfold heardM
  simp only [Int.toNat_natCast]
theorem fou_mod {n : Int} {t : Int} (hn : 0 < n) (ht : 0 ≤ t) : ∃ I : Nat, t.tmod n = (I : Int) ∧ (I : Int) < n := by
  have h1 := Int.tmod_nonneg n ht
  exact ⟨(t.tmod n).toNat, (Int.toNat_of_nonneg h1).symm, by rw [Int.toNat_of_nonneg h1]; exact Int.tmod_lt_of_pos t hn⟩
end Go.Proofs.YtlonpgbapiemcaaGreat
