/- What FogMore is told of a fog with one report more. No program stands here. -/
import Derived.Test.YtpbpcplboikpcaaGreatFMorP
import Derived.Test.YtpbpcplboikpcaaGreatFOne
import Derived.Test.YtpbpcplboikpcaaGreatFConR
import Derived.Test.YtpbpcplboikpcaaGreatFWithP
import Derived.Test.YtpbpcplboikpcaaGreatFStill
namespace Go.Proofs.YtpbpcplboikpcaaGreat
open Go Go.RowKit
set_option linter.unusedVariables false
set_option linter.unusedSimpArgs false

theorem again_nodup : ∀ {l pre : List Rp}, againL sameR pre l = false → (l.map Rp.bl).Nodup ∧ ∀ x ∈ l, ∀ y ∈ pre, y.bl ≠ x.bl
  | [], _, _ => ⟨List.nodup_nil, fun x h => (by cases h)⟩
  | x :: l, pre, h => by
    unfold againL at h
    rw [Bool.or_eq_false_iff, List.any_eq_false] at h
    obtain ⟨h1, h2⟩ := again_nodup h.2
    refine ⟨?_, fun z hz y hy => ?_⟩
    · rw [List.map_cons, List.nodup_cons]
      refine ⟨fun e => ?_, h1⟩
      obtain ⟨z, hz, e⟩ := List.mem_map.1 e
      exact h2 z hz x (by simp) e.symm
    · rcases List.mem_cons.1 hz with rfl | hz
      · intro e
        have := h.1 y hy
        unfold sameR at this
        simp [e] at this
      · exact h2 z hz y (by simp [hy])
theorem more_len {n : Nat} {rs : List Rp} (h : againL sameR [] rs = false) (hb : ∀ r ∈ rs, 0 ≤ r.bl ∧ r.bl < n) {i : Int} (hi : 0 ≤ i ∧ i < n) (hn : rs.any (fun x => x.bl == i) = false) : rs.length + 1 ≤ n := by
  have h1 := (again_nodup h).1
  rw [List.any_eq_false] at hn
  have h2 : (i :: rs.map Rp.bl).Nodup := List.nodup_cons.2 ⟨fun e => by
    obtain ⟨z, hz, e⟩ := List.mem_map.1 e
    have := hn z hz
    simp [e] at this, h1⟩
  have key : ∀ x ∈ (i :: rs.map Rp.bl), 0 ≤ x ∧ x < n := fun x hx => by
    rcases List.mem_cons.1 hx with rfl | hx
    · exact hi
    · obtain ⟨z, hz, rfl⟩ := List.mem_map.1 hx; exact hb z hz
  have h3 : ((i :: rs.map Rp.bl).map Int.toNat).Nodup := by
    have : ∀ {l : List Int}, l.Nodup → (∀ x ∈ l, 0 ≤ x) → (l.map Int.toNat).Nodup := fun {l} => by
      induction l with
      | nil => exact fun _ _ => List.nodup_nil
      | cons x l ih =>
        intro h k
        rw [List.map_cons, List.nodup_cons]
        have h4 := List.nodup_cons.1 h
        refine ⟨fun e => ?_, ih h4.2 (fun y hy => k y (by simp [hy]))⟩
        obtain ⟨y, hy, e⟩ := List.mem_map.1 e
        have k1 := k x (by simp)
        have k2 := k y (by simp [hy])
        have : x = y := by omega
        exact h4.1 (this ▸ hy)
    exact this h2 (fun x hx => (key x hx).1)
  have h4 := nodup_short' n _ h3 (fun x hx => by
    obtain ⟨y, hy, rfl⟩ := List.mem_map.1 hx
    have := key y hy
    omega)
  simpa using h4
/-- A fog of one cart with one report more. -/
theorem more_ok {f : Fg} {st : List Int} {rs : List Rp} (h : FogOK (oneC f st rs)) {r : Rp} (hb : 0 ≤ r.bl ∧ r.bl < f.bl.length) (hn : rs.any (fun x => x.bl == r.bl) = false) : FogOK (oneC f st (rs ++ [r])) := by
  have hm : (⟨st, rs⟩ : Ct) ∈ (oneC f st rs).ct := by unfold oneC; simp
  have key : ∀ {Q : Ct → Prop}, Q ⟨st, rs ++ [r]⟩ → ∀ x ∈ (oneC f st (rs ++ [r])).ct, Q x := fun h1 x hx => by
    unfold oneC at hx
    simp only [List.mem_singleton] at hx
    subst hx; exact h1
  have hra := h.ra ⟨st, rs⟩ hm
  have hrp := h.rp ⟨st, rs⟩ hm
  have hl : rs.length + 1 ≤ f.bl.length := more_len hra hrp hb hn
  have hbn : f.bl.length ≤ 8 := h.bn
  exact {
    pl := h.pl, mi := h.mi, tn := h.tn, bn := h.bn, cn := h.cn, tr := h.tr, bl := h.bl
    st := key (Q := fun x => ∀ p ∈ x.st, 0 ≤ p ∧ p < f.pl) (h.st ⟨st, rs⟩ hm)
    rp := key (Q := fun x => ∀ r ∈ x.rp, 0 ≤ r.bl ∧ r.bl < f.bl.length) (fun x hx => by
      rcases List.mem_append.1 hx with hx | hx
      · exact hrp x hx
      · simp only [List.mem_singleton] at hx; subst hx; exact hb)
    rn := key (Q := fun x => x.rp.length ≤ 8) (by simp only [List.length_append, List.length_singleton]; omega)
    ra := key (Q := fun x => againL sameR [] x.rp = false) (by
      show againL sameR [] (rs ++ [r]) = false
      rw [again_snoc, show againL sameR [] rs = false from hra, Bool.false_or, List.nil_append, List.any_eq_false]
      rw [List.any_eq_false] at hn
      intro x hx e
      unfold sameR at e
      rw [beq_iff_eq] at e
      exact hn x hx (by simp [e]))
    ne := key (Q := fun x => 0 < x.st.length) (h.ne ⟨st, rs⟩ hm)
    asc := key (Q := fun x => ascL x.st = true) (h.asc ⟨st, rs⟩ hm) }
theorem one_ct (f : Fg) (st : List Int) (rs rs' : List Rp) : oneC f st rs' = { oneC f st rs with ct := [⟨st, rs'⟩] } := rfl
theorem still_one (g : Mat) (f : Fg) (st : List Int) (rs rs' : List Rp) (c : Ct) : stillM g (oneC f st rs') c = stillM g (oneC f st rs) c := by
  rw [one_ct f st rs rs']; exact still_ct _ _ _ _
theorem count_one (g : Mat) (f : Fg) (st : List Int) (rs rs' : List Rp) (c : Ct) : countM g (oneC f st rs') c allF = countM g (oneC f st rs) c allF := by
  rw [one_ct f st rs rs']; exact count_ct _ _ _ _ _
theorem can_one (g : Mat) (f : Fg) (st : List Int) (rs rs' : List Rp) (c : Ct) (k : Nat) : canN g (oneC f st rs') c k = canN g (oneC f st rs) c k := by
  rw [one_ct f st rs rs']; exact can_ct _ _ _ _ _
/-- What the law needs of the three fogs. -/
structure MorOK (f : Fg) (st : List Int) (rs : List Rp) (l : List Int) (i : Int) (hd : Bool) : Prop where
  e1 : withE (oneC f st rs) 0 ⟨i, hd⟩ = 0
  e2 : withE (oneC f st rs) 0 ⟨i, !hd⟩ = 0
  ok1 : FogOK (oneC f st (rs ++ [⟨i, hd⟩]))
  ok2 : FogOK (oneC f st (rs ++ [⟨i, !hd⟩]))
  ck1 : checkF (oneC f st (rs ++ [⟨i, hd⟩])) = 0
  ck2 : checkF (oneC f st (rs ++ [⟨i, !hd⟩])) = 0
  yes : 1 ≤ countV (oneC f st (rs ++ [⟨i, hd⟩])) 0
  all : countV (oneC f st (rs ++ [⟨i, hd⟩])) 0 + countV (oneC f st (rs ++ [⟨i, !hd⟩])) 0 = countV (oneC f st rs) 0
  lo : 0 ≤ countV (oneC f st (rs ++ [⟨i, !hd⟩])) 0 ∧ countV (oneC f st rs) 0 ≤ 1000000000
  he : heardE (oneC f st rs) 0 i = 0
  no : (heardA (oneC f st rs) 0 i || heardN (oneC f st rs) 0 i) = (countV (oneC f st (rs ++ [⟨i, !hd⟩])) 0 == 0)
  al : heardA (oneC f st rs) 0 i = true → hd = true
  ne : heardN (oneC f st rs) 0 i = true → hd = false
  at1 : ∀ m : Nat, m ≤ f.mi.toNat → atE (oneC f st rs) 0 (m : Int) = 0 ∧ atE (oneC f st (rs ++ [⟨i, hd⟩])) 0 (m : Int) = 0 ∧ memI (l.getD m 0) (atL (oneC f st (rs ++ [⟨i, hd⟩])) 0 (m : Int)) = true ∧ (∀ x ∈ atL (oneC f st (rs ++ [⟨i, hd⟩])) 0 (m : Int), memI x (atL (oneC f st rs) 0 (m : Int)) = true) ∧ (atL (oneC f st rs) 0 (m : Int)).length ≤ 8 ∧ (atL (oneC f st (rs ++ [⟨i, hd⟩])) 0 (m : Int)).length ≤ 8
  st1 : stillE (oneC f st rs) 0 = 0 ∧ stillE (oneC f st (rs ++ [⟨i, hd⟩])) 0 = 0 ∧ stillV (oneC f st (rs ++ [⟨i, hd⟩])) 0 ≤ stillV (oneC f st rs) 0 ∧ stillV (oneC f st rs) 0 ≤ f.mi
theorem count_max {f : Fg} {c : Ct} (h : FogOK f) (hc : c ∈ f.ct) : countM (farM f) f c allF ≤ 1000000000 := by
  rw [count_come h hc]
  have h1 : sumN f.pl.toNat (comeM (farM f) f c allF f.mi.toNat) ≤ sumN f.pl.toNat (fun _ => 16777216) := sumN_le fun p _ => by
    refine Int.le_trans (come_le h.pl.2 _ _) ?_
    have h3 : f.mi.toNat ≤ 8 := by have := h.mi; omega
    generalize f.mi.toNat = k at h3
    have : ∀ k : Fin 9, (8 : Int) ^ k.val ≤ 16777216 := by decide
    exact this ⟨k, by omega⟩
  have h2 : ∀ n : Nat, n ≤ 8 → sumN n (fun _ => 16777216) ≤ 1000000000 := fun n hn => by
    have e : sumN n (fun _ => 16777216) = n * 16777216 := by
      induction n with
      | zero => rfl
      | succ n ih => rw [sumN_succ, ih (by omega)]; omega
    rw [e]; omega
  have := h2 f.pl.toNat (by have := h.pl; omega)
  omega
theorem mem_any_eq {P M : Nat} {f : Fg} {st : List Int} {rs : List Rp} {l : List Int} (h : OneF P M (oneC f st rs) st rs l) (i : Int) : memR ⟨i, hearsL2 (farM (oneC f st rs)) (oneC f st rs) l i⟩ rs = rs.any fun x => x.bl == i := by
  rw [Bool.eq_iff_iff]
  unfold memR eqR
  simp only [List.any_eq_true, Bool.and_eq_true, beq_iff_eq]
  constructor
  · rintro ⟨x, hx, e, -⟩; exact ⟨x, hx, e.symm⟩
  · rintro ⟨x, hx, rfl⟩; exact ⟨x, hx, rfl, (h.tr.hd x hx).symm⟩
theorem with_again {f : Fg} {st : List Int} {rs : List Rp} (hck : checkF (oneC f st rs) = 0) {r : Rp} (hb : 0 ≤ r.bl ∧ r.bl < f.bl.length) : withE (oneC f st rs) 0 r = if rs.any (fun x => x.bl == r.bl) then 5 else 0 := by
  obtain ⟨h1, h2⟩ := one_cart (c := ⟨st, rs⟩) hck rfl
  have hb2 : blOK (oneC f st rs) r.bl = true := by
    unfold blOK
    rw [inB_iff]
    have : (oneC f st rs).bl.length = f.bl.length := rfl
    omega
  unfold withE
  rw [if_neg (fun x => x h1), hb2, h2]
  rfl
theorem with_is (f : Fg) (st : List Int) (rs : List Rp) (r : Rp) : withF (oneC f st rs) 0 r = oneC f st (rs ++ [r]) := rfl
set_option maxHeartbeats 2000000 in
theorem mor_ok {P M : Nat} {f : Fg} {st : List Int} {rs : List Rp} {l : List Int} (h : OneF P M (oneC f st rs) st rs l) {i : Int} (hi : 0 ≤ i ∧ i < f.bl.length) (hn : rs.any (fun x => x.bl == i) = false) :
    MorOK f st rs l i (hearsL2 (farM (oneC f st rs)) (oneC f st rs) l i) := by
  obtain ⟨hd, hhd⟩ : ∃ hd, hearsL2 (farM (oneC f st rs)) (oneC f st rs) l i = hd := ⟨_, rfl⟩
  rw [hhd]
  have hmi := h.ok.mi
  have ok1 := more_ok h.ok (r := ⟨i, hd⟩) hi hn
  have ok2 := more_ok h.ok (r := ⟨i, !hd⟩) hi hn
  have ck1 := check_of ok1 h.ag
  have ck2 := check_of ok2 h.ag
  have a1 : AddOK (oneC f st rs) ⟨st, rs⟩ ⟨i, hd⟩ := ⟨h.ok, h.mem, ok1, hi⟩
  have a2 : AddOK (oneC f st rs) ⟨st, rs⟩ ⟨i, !hd⟩ := ⟨h.ok, h.mem, ok2, hi⟩
  obtain ⟨c0, d0⟩ := one_cart (c := ⟨st, rs⟩) h.check rfl
  obtain ⟨c1, d1⟩ := one_cart (c := ⟨st, rs ++ [⟨i, hd⟩]⟩) ck1 rfl
  obtain ⟨c2, d2⟩ := one_cart (c := ⟨st, rs ++ [⟨i, !hd⟩]⟩) ck2 rfl
  have g1 : farM (oneC f st (rs ++ [⟨i, hd⟩])) = farM (oneC f st rs) := rfl
  have g2 : farM (oneC f st (rs ++ [⟨i, !hd⟩])) = farM (oneC f st rs) := rfl
  have n0 : countV (oneC f st rs) 0 = countM (farM (oneC f st rs)) (oneC f st rs) ⟨st, rs⟩ allF := by unfold countV; rw [if_pos c0, d0]
  have n1 : countV (oneC f st (rs ++ [⟨i, hd⟩])) 0 = countM (farM (oneC f st rs)) (oneC f st rs) (addR ⟨st, rs⟩ ⟨i, hd⟩) allF := by
    unfold countV
    rw [if_pos c1, d1, g1]
    exact count_one _ f st rs _ _
  have n2 : countV (oneC f st (rs ++ [⟨i, !hd⟩])) 0 = countM (farM (oneC f st rs)) (oneC f st rs) (addR ⟨st, rs⟩ ⟨i, !hd⟩) allF := by
    unfold countV
    rw [if_pos c2, d2, g2]
    exact count_one _ f st rs _ _
  have hfits : fitsM (farM (oneC f st (rs ++ [⟨i, hd⟩]))) (oneC f st (rs ++ [⟨i, hd⟩])) ⟨st, rs ++ [⟨i, hd⟩]⟩ l = true :=
    real_fits ok1 (c := ⟨st, rs ++ [⟨i, hd⟩]⟩) ⟨h.real.len, h.real.pl, h.real.st, h.real.step⟩ (fun r hr => by
      rcases List.mem_append.1 hr with hr | hr
      · exact h.tr.hd r hr
      · simp only [List.mem_singleton] at hr; subst hr; exact hhd.symm)
  have hm1 : (⟨st, rs ++ [⟨i, hd⟩]⟩ : Ct) ∈ (oneC f st (rs ++ [⟨i, hd⟩])).ct := by unfold oneC; simp
  have hf1 := fits_found ok1 hm1 hfits
  have hf0 := h.found
  have hboth : countM (farM (oneC f st rs)) (oneC f st rs) (addR ⟨st, rs⟩ ⟨i, hd⟩) allF + countM (farM (oneC f st rs)) (oneC f st rs) (addR ⟨st, rs⟩ ⟨i, !hd⟩) allF = countM (farM (oneC f st rs)) (oneC f st rs) ⟨st, rs⟩ allF := by
    cases hd
    · rw [Int.add_comm]; exact count_both (r := ⟨i, true⟩) a2 a1
    · exact count_both (r := ⟨i, true⟩) a1 a2
  have hb0 : blOK (oneC f st rs) i = true := by
    unfold blOK
    rw [inB_iff]
    have : (oneC f st rs).bl.length = f.bl.length := rfl
    omega
  have hhE : heardE (oneC f st rs) 0 i = 0 := by
    unfold heardE
    rw [if_neg (fun x => x c0), hb0, d0, hf0]; rfl
  obtain ⟨m, em, hm⟩ := bl_at (r := ⟨i, hd⟩) h.ok hi
  have em2 : (blAt (oneC f st rs) i).mi.toNat = m := by have := em; dsimp only at this; omega
  have hreal : wlAt l m ∈ canN (farM (oneC f st rs)) (oneC f st rs) ⟨st, rs⟩ m := fits_can h.ok h.mem h.fits hm
  have hrh : heardM (farM (oneC f st rs)) (blAt (oneC f st rs) i) (wlAt l m) = hd := by rw [← hhd]; unfold hearsL2; rw [em2]
  have hno := count_no a2
  dsimp only at hno
  rw [em2] at hno
  have eA : heardA (oneC f st rs) 0 i = (canN (farM (oneC f st rs)) (oneC f st rs) ⟨st, rs⟩ m).all (heardM (farM (oneC f st rs)) (blAt (oneC f st rs) i)) := by
    unfold heardA; rw [hhE, d0, em2]; rfl
  have eN : heardN (oneC f st rs) 0 i = !(canN (farM (oneC f st rs)) (oneC f st rs) ⟨st, rs⟩ m).any (heardM (farM (oneC f st rs)) (blAt (oneC f st rs) i)) := by
    unfold heardN; rw [hhE, d0, em2]; rfl
  have hal : heardA (oneC f st rs) 0 i = true → hd = true := fun e => by
    rw [eA, List.all_eq_true] at e
    rw [← hrh]; exact e _ hreal
  have hne : heardN (oneC f st rs) 0 i = true → hd = false := fun e => by
    rw [eN, Bool.not_eq_true', List.any_eq_false] at e
    rw [← hrh]
    have := e _ hreal
    simpa using this
  have key : ∀ k : Nat, k ≤ f.mi.toNat → atE (oneC f st rs) 0 (k : Int) = 0 ∧ atL (oneC f st rs) 0 (k : Int) = natI (canN (farM (oneC f st rs)) (oneC f st rs) ⟨st, rs⟩ k) ∧ atE (oneC f st (rs ++ [⟨i, hd⟩])) 0 (k : Int) = 0 ∧ atL (oneC f st (rs ++ [⟨i, hd⟩])) 0 (k : Int) = natI (canN (farM (oneC f st rs)) (oneC f st rs) (addR ⟨st, rs⟩ ⟨i, hd⟩) k) := fun k hk => by
    have hmo : ∀ rs', miOK (oneC f st rs') (k : Int) = true := fun rs' => by
      unfold miOK
      rw [inB_iff]
      have e1 : (oneC f st rs').mi = f.mi := rfl
      have e2 : (oneC f st rs).mi = f.mi := rfl
      rw [e2] at hmi
      rw [e1]; omega
    have q1 : atE (oneC f st rs) 0 (k : Int) = 0 := by unfold atE; rw [if_neg (fun x => x c0), hmo, d0, hf0]; rfl
    have q2 : atE (oneC f st (rs ++ [⟨i, hd⟩])) 0 (k : Int) = 0 := by unfold atE; rw [if_neg (fun x => x c1), hmo, d1, hf1]; rfl
    refine ⟨q1, ?_, q2, ?_⟩
    · unfold atL; rw [if_pos q1, d0, Int.toNat_natCast]
    · unfold atL; rw [if_pos q2, d1, Int.toNat_natCast, g1]
      congr 1
      exact can_one _ f st rs _ _ k
  have s0 : stillE (oneC f st rs) 0 = 0 := by unfold stillE; rw [if_neg (fun x => x c0), d0, hf0]; rfl
  have s1 : stillE (oneC f st (rs ++ [⟨i, hd⟩])) 0 = 0 := by unfold stillE; rw [if_neg (fun x => x c1), d1, hf1]; rfl
  have t0 : stillV (oneC f st rs) 0 = stillM (farM (oneC f st rs)) (oneC f st rs) ⟨st, rs⟩ := by unfold stillV; rw [if_pos s0, d0]
  have t1 : stillV (oneC f st (rs ++ [⟨i, hd⟩])) 0 = stillM (farM (oneC f st rs)) (oneC f st rs) (addR ⟨st, rs⟩ ⟨i, hd⟩) := by
    unfold stillV
    rw [if_pos s1, d1, g1]
    exact still_one _ f st rs _ _
  refine { e1 := ?_, e2 := ?_, ok1 := ok1, ok2 := ok2, ck1 := ck1, ck2 := ck2, yes := ?_, all := ?_, lo := ⟨?_, ?_⟩, he := hhE, no := ?_, al := hal, ne := hne, at1 := fun k hk => ?_, st1 := ⟨s0, s1, ?_, ?_⟩ }
  · rw [with_again h.check (r := ⟨i, hd⟩) hi]; dsimp only; rw [hn]; rfl
  · rw [with_again h.check (r := ⟨i, !hd⟩) hi]; dsimp only; rw [hn]; rfl
  · have := fits_pos ok1 hm1 hfits
    unfold countV
    rw [if_pos c1, d1]; omega
  · rw [n0, n1, n2]; exact hboth
  · rw [n2, ← count_one (farM (oneC f st rs)) f st rs (rs ++ [⟨i, !hd⟩])]
    exact count_nn ok2 (c := ⟨st, rs ++ [⟨i, !hd⟩]⟩) (by simp [oneC]) allF
  · rw [n0]; exact count_max h.ok h.mem
  · rw [n2, Bool.eq_iff_iff, beq_iff_eq, hno, Bool.or_eq_true]
    constructor
    · rintro (e | e)
      · have h1 := hal e
        rw [eA, List.all_eq_true] at e
        intro p hp
        rw [e p hp, h1]; decide
      · have h1 := hne e
        rw [eN, Bool.not_eq_true', List.any_eq_false] at e
        intro p hp
        have h2 := e p hp
        simp only [Bool.not_eq_true] at h2
        rw [h2, h1]; decide
    · intro e
      cases hd
      · right
        rw [eN, Bool.not_eq_true', List.any_eq_false]
        intro p hp
        simpa using e p hp
      · left
        rw [eA, List.all_eq_true]
        intro p hp
        simpa using e p hp
  · obtain ⟨q1, q2, q3, q4⟩ := key k hk
    refine ⟨q1, q3, ?_, ?_, ?_, ?_⟩
    · rw [q4, mem_memI]
      have h1 := fits_can ok1 hm1 hfits (m := k) hk
      have h2 : wlAt l k ∈ canN (farM (oneC f st rs)) (oneC f st rs) (addR ⟨st, rs⟩ ⟨i, hd⟩) k := by
        rw [← can_one (farM (oneC f st rs)) f st rs (rs ++ [⟨i, hd⟩])]; exact h1
      have h3 := (fits_at ok1 hm1 hfits (m := k) hk).2.1
      rw [h3]
      unfold natI
      exact List.mem_map.2 ⟨_, h2, rfl⟩
    · rw [q2, q4]
      intro x hx
      unfold natI at hx ⊢
      obtain ⟨p, hp, rfl⟩ := List.mem_map.1 hx
      rw [mem_memI]
      exact List.mem_map.2 ⟨p, can_add hk hp, rfl⟩
    · rw [q2]; exact (canN_lt h.ok.pl.2 k).2
    · rw [q4]; exact (canN_lt h.ok.pl.2 k).2
  · rw [t0, t1]; exact still_add
  · rw [t0]
    have := still_top (oneC f st rs) ⟨st, rs⟩
    have e2 : (oneC f st rs).mi = f.mi := rfl
    rw [e2] at this hmi
    omega
end Go.Proofs.YtpbpcplboikpcaaGreat
