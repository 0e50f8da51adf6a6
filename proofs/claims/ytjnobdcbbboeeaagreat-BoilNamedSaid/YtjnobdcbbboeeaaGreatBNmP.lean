/- The plain side of BoilNamed, and reading of a map under a guard. -/
import Derived.Test.YtjnobdcbbboeeaaGreatBNmS
import Derived.Test.YtjnobdcbbboeeaaGreatBPrf2
import Derived.Test.YtjnobdcbbboeeaaGreatBFwA
import Derived.Test.YtjnobdcbbboeeaaGreatBShnP
import Derived.Test.YtjnobdcbbboeeaaGreatBOrd
import Derived.Test.YtjnobdcbbboeeaaGreatBDele
import Derived.Test.YtjnobdcbbboeeaaGreatSrt
import Derived.Test.YtjnobdcbbboeeaaGreatHa
namespace Go.Proofs.YtjnobdcbbboeeaaGreat
open Go Go.RowKit Go.Shelf
set_option linter.unusedVariables false
set_option linter.unusedSimpArgs false

/-- Reading of a number, under a guard that lets it be. -/
theorem wpList_lookup_blg {P : Program} (hP : P = Tryz.prog) (w : World) {ops : Array Oper} {rest : List Oper} {o : Oper} {a : Act} {Q : Exit → Act → World → Prop}
    (hg : Region.wanted o (yielded ops a.tmps) = true) (m x : Operand) (hop : o.op = Op.lookup 41 m x false) (b n : Nat) (l : List Int) (hm : a.eval m = .map (some b)) (hown : MapBl w b n l) (y : Int) (hx : a.eval x = .int .i64 y) (hy : 0 ≤ y ∧ y ≤ 1000000)
    (hK : wpList P ops Q rest (a.put o.dst (.bool (memI y l))) w) : wpList P ops Q (o :: rest) a w := by
  have K := wpList_lookup_bl hP w (ops := ops) (rest := rest) (o := { o with guard := none }) (a := a) (Q := Q) rfl m x hop b n l hm hown y hx hy hK
  unfold wpList at K ⊢
  rw [if_pos hg]
  rw [if_pos (by rfl)] at K
  exact K
/-- What a proof says of each of its pairs. -/
theorem prv_all {h : Hs} : ∀ (l : List (Int × Int)) (U W : List Int), prvE h U W l = 0 → ∀ (i : Nat) (p : Int × Int), l[i]? = some p →
    (wgOK h p.1 = true ∧ wgOK h p.2 = true) ∧ claH h p.1.toNat p.2.toNat = true ∧ (p.1 ∉ U ∧ p.1 ∉ (l.take i).map (·.1)) ∧ p.2 ∉ W ∧ p.2 ∉ (l.take i).map (·.2)
  | [], _, _, _, i, p, hi => by simp at hi
  | q :: l, U, W, e, i, p, hi => by
    unfold prvE at e
    split at e
    · cases e
    · rename_i h1
      split at e
      · cases e
      · rename_i h2
        split at e
        · cases e
        · rename_i h3
          cases i with
          | zero =>
            simp at hi; subst hi
            simp only [Bool.not_eq_false, Bool.and_eq_true] at h1
            simp only [Bool.not_eq_false] at h2
            simp only [Bool.or_eq_true, not_or, Bool.not_eq_true] at h3
            refine ⟨h1, h2, ⟨fun m => ?_, by simp⟩, fun m => ?_, by simp⟩
            · rw [mem_memI.2 m] at h3; cases h3.1
            · rw [mem_memI.2 m] at h3; cases h3.2
          | succ i =>
            obtain ⟨g1, g2, ⟨g3, g4⟩, g5, g6⟩ := prv_all l _ _ e i p (by simpa using hi)
            simp only [List.mem_cons, not_or] at g3 g5
            refine ⟨g1, g2, ⟨g3.2, ?_⟩, g5.2, ?_⟩
            · rw [List.take_succ_cons, List.map_cons, List.mem_cons, not_or]; exact ⟨g3.1, g4⟩
            · rw [List.take_succ_cons, List.map_cons, List.mem_cons, not_or]; exact ⟨g5.1, g6⟩
theorem prf_all {h : Hs} (k : HsOK h) {pr : List (Int × Int)} (g : PrfGood h pr) {i : Nat} {p : Int × Int} (hi : pr[i]? = some p) :
    (wgOK h p.1 = true ∧ wgOK h p.2 = true) ∧ claH h p.1.toNat p.2.toNat = true ∧ memI p.1 ((pr.take i).map (·.1)) = false ∧ memI p.2 ((pr.take i).map (·.2)) = false := by
  have e := g.ok.1
  unfold provE at e
  rw [if_neg (by simp [checkH_of k])] at e
  obtain ⟨g1, g2, ⟨-, g3⟩, -, g4⟩ := prv_all pr [] [] e i p hi
  refine ⟨g1, g2, ?_, ?_⟩
  · rw [Bool.eq_false_iff]; exact fun m => g3 (mem_memI.1 m)
  · rw [Bool.eq_false_iff]; exact fun m => g4 (mem_memI.1 m)

/-! ### Lists without repeats, in bounds -/
theorem nodup_erase {l : List Int} (h : l.Nodup) (i : Nat) : (l.eraseIdx i).Nodup := h.sublist (List.eraseIdx_sublist l i)
theorem mem_erase {l : List Int} {i : Nat} {x : Int} (h : x ∈ l.eraseIdx i) : x ∈ l := (List.eraseIdx_sublist l i).subset h
theorem idxF_mem {x : Int} : ∀ (l : List Int) (k : Nat), idxF (fun y => x == y) l k ≠ -1 → x ∈ l
  | [], k, h => absurd rfl h
  | y :: l, k, h => by
    unfold idxF at h
    split at h
    · rename_i e
      rw [beq_iff_eq] at e
      simp [e]
    · exact List.mem_cons_of_mem _ (idxF_mem l _ h)
/-- A list that is sorted and has nothing twice is strictly increasing. -/
theorem sorted_asc {N : Nat} {l : List Int} (hd : l.Nodup) (hb : ∀ x ∈ l, 0 ≤ x ∧ x < (N : Int)) : (sortI l).Pairwise (· < ·) ∧ ∀ x ∈ sortI l, 0 ≤ x ∧ x < (N : Int) := by
  have h1 := sortI_le l
  have h2 : (sortI l).Nodup := (sortI_perm l).nodup_iff.2 hd
  refine ⟨?_, fun x hx => hb x ((sortI_perm l).mem_iff.1 hx)⟩
  have h3 := h1.and h2
  exact h3.imp fun {a b} h => by have := h.1; have := h.2; omega
theorem idxF_rng {α : Type} (q : α → Bool) : ∀ (l : List α) (k : Nat), idxF q l k = -1 ∨ ∃ i, i < l.length ∧ idxF q l k = ((k + i : Nat) : Int)
  | [], k => .inl rfl
  | x :: l, k => by
    unfold idxF
    split
    · exact .inr ⟨0, by simp, rfl⟩
    · rcases idxF_rng q l (k + 1) with e | ⟨i, h, e⟩
      · exact .inl e
      · exact .inr ⟨i + 1, by simp; omega, by rw [e]; congr 1; omega⟩
theorem asc_of {N : Nat} : ∀ {l : List Int} {k : Nat}, l.Pairwise (· < ·) → (∀ x ∈ l, (k : Int) ≤ x ∧ x < (N : Int)) → Asc k N l
  | [], _, _, _ => trivial
  | x :: l, k, h, hb => by
    obtain ⟨h1, h2⟩ := hb x (by simp)
    rw [List.pairwise_cons] at h
    refine ⟨h1, h2, asc_of h.2 fun y hy => ?_⟩
    have h3 := h.1 y hy
    have h4 := hb y (by simp [hy])
    omega
/-- Weighings that are not true in a truth cover all clashes. -/
theorem fal_cov {h : Hs} {l : List Rt} (k : HsOK h) (hr : RtsOK h l) (ht : truthH h l = true) : covH h (someW (falB h l) h.ws.length) = true := by
  rw [cov_iff]
  intro a b ha hb
  obtain ⟨hb1, hc⟩ := mem_bel.1 hb
  have ma := wgAt_mem ha
  have mb := wgAt_mem hb1
  rw [mem_someW, mem_someW]
  by_cases e1 : falB h l a = true
  · exact .inl ⟨by omega, by omega, by rw [Int.toNat_natCast]; exact e1⟩
  by_cases e2 : falB h l b = true
  · exact .inr ⟨by omega, by omega, by rw [Int.toNat_natCast]; exact e2⟩
  exfalso
  unfold falB at e1 e2
  simp only [Bool.not_eq_true', Bool.not_eq_false] at e1 e2
  obtain ⟨h1, h2⟩ := claH_iff.1 hc
  have wa := hold_iff.1 e1
  have wb := hold_iff.1 e2
  have hu := truth_und hr ht (k.wm _ ma) (k.wm _ mb) h1
  have pa := rtAt_pos hr (k.wm _ ma)
  have pb := rtAt_pos hr (k.wm _ mb)
  exact h2 (leR_trans (k.pos ma).1 pb (k.pos mb).2 (leR_trans (k.pos ma).1 pa pb wa.1 hu) wb.2)
theorem wit_zero {h : Hs} : ∀ (l g : List Int), (∀ x ∈ l, wgOK h x = true) → l.Nodup → (∀ x ∈ l, x ∉ g) → witE h g l = 0
  | [], _, _, _, _ => rfl
  | n :: l, g, h1, h2, h3 => by
    rw [List.nodup_cons] at h2
    unfold witE
    rw [if_neg (by rw [h1 n (by simp)]; simp), if_neg (fun e => h3 n (by simp) (mem_memI.1 e))]
    refine wit_zero l _ (fun x hx => h1 x (by simp [hx])) h2.2 fun x hx hm => ?_
    rcases List.mem_cons.1 hm with e | e
    · subst e; exact h2.1 hx
    · exact h3 x (by simp [hx]) e
/-- How many are left. -/
theorem keep_count (h : Hs) : ∀ (n : Nat) (l : List Int), l.Nodup → (∀ x ∈ l, 0 ≤ x ∧ x < (n : Int)) → (keepK h l n).length + l.length = n
  | 0, l, _, hb => by
    cases l with
    | nil => rfl
    | cons x l => have := hb x (by simp); omega
  | n + 1, l, hd, hb => by
    rw [keepK_next, List.length_append]
    by_cases e : memI (n : Int) l = true
    · rw [if_pos e]
      have hm := mem_memI.1 e
      have h1 := List.length_erase_of_mem hm
      have h2 := keep_count h n (l.erase (n : Int)) (hd.erase _) fun x hx => by
        have h3 := hb x (List.mem_of_mem_erase hx)
        have h4 : x ≠ (n : Int) := fun q => by
          subst q
          exact (List.Nodup.not_mem_erase hd) hx
        omega
      have h5 : keepK h (l.erase (n : Int)) n = keepK h l n := by
        unfold keepK
        congr 1
        apply List.filter_congr
        intro i hi
        have hi' : i < n := List.mem_range.1 hi
        have : memI (i : Int) (l.erase (n : Int)) = memI (i : Int) l := by
          rw [Bool.eq_iff_iff, mem_memI, mem_memI]
          exact List.mem_erase_of_ne (by omega)
        rw [this]
      rw [h5] at h2
      have h6 : 0 < l.length := List.length_pos_of_mem hm
      simp
      omega
    · rw [if_neg e]
      have h2 := keep_count h n l hd fun x hx => by
        have h3 := hb x hx
        have h4 : x ≠ (n : Int) := fun q => e (mem_memI.2 (q ▸ hx))
        omega
      simp
      omega
theorem keep_at {h : Hs} {l : List Int} {w : Wg} (hw : w ∈ keepW h l) : ∃ i, i < h.ws.length ∧ (i : Int) ∉ l ∧ wgAt h i = w := by
  unfold keepW at hw
  obtain ⟨i, hi, rfl⟩ := List.mem_map.1 hw
  obtain ⟨h1, h2⟩ := List.mem_filter.1 hi
  refine ⟨i, List.mem_range.1 h1, fun e => ?_, rfl⟩
  rw [mem_memI.2 e] at h2; cases h2
/-- What is left where all clashes are covered agrees. -/
theorem less_okN {h : Hs} (k : HsOK h) {l : List Int} (hc : covH h l = true) : HsOK { h with ws := keepW h l } ∧ agrH { h with ws := keepW h l } = true := by
  have hm : ∀ w ∈ keepW h l, w ∈ h.ws := fun w hw => by
    obtain ⟨i, h1, -, rfl⟩ := keep_at hw
    exact wgAt_mem h1
  have hlen : (keepW h l).length ≤ h.ws.length := by
    have := keepK_len h l h.ws.length
    exact this
  refine ⟨⟨k.mo, Nat.le_trans hlen k.len, k.pk, fun w hw => k.wm w (hm w hw), fun w hw => k.ms w (hm w hw)⟩, ?_⟩
  rw [agr_iff]
  intro a b ha hb
  obtain ⟨i, i1, i2, i3⟩ := keep_at (wgAt_mem (h := { h with ws := keepW h l }) ha)
  obtain ⟨j, j1, j2, j3⟩ := keep_at (wgAt_mem (h := { h with ws := keepW h l }) hb)
  have e : claH { h with ws := keepW h l } a b = claH h i j := by
    unfold claH undH
    rw [← i3, ← j3]
  rw [e, Bool.eq_false_iff]
  intro q
  rcases cov_iff.1 hc i j i1 (mem_bel.2 ⟨j1, q⟩) with m | m
  · exact i2 m
  · exact j2 m
structure NamOK (h : Hs) (real : List Rt) : Prop where
  fe : fewE h = 0
  fv : fewV h = fewH h
  asc : Asc 0 h.ws.length (fewH h)
  len : (fewH h).length = sizeH h
  fa : falE h real = 0
  lied : (fewH h).length ≤ (falV h real).length
  cov : covH h (fewH h) = true
  wE : wthE h (fewH h) = 0
  wV : wthV h (fewH h) = { h with ws := keepW h (fewH h) }
  wL : (keepW h (fewH h)).length + (fewH h).length = h.ws.length
  sE : shoE (wthV h (fewH h)) = 0
  sL : ((shoV (wthV h (fewH h))).length : Int) = h.mo
  sF : falE (wthV h (fewH h)) (shoV (wthV h (fewH h))) = 0 ∧ falV (wthV h (fewH h)) (shoV (wthV h (fewH h))) = []
  least : ∀ l, Asc 0 h.ws.length l → covH h l = true → ¬ l.length < (fewH h).length ∧ (l.length ≤ (fewH h).length → ¬ cmpL l (fewH h) < 0)
theorem nam_ok {M K W : Nat} {h : Hs} {real : List Rt} (m : MadeH M K W h real) : NamOK h real := by
  have k := m.ok
  have hc := checkH_of k
  obtain ⟨-, -, f1, f2, f3, f4⟩ := few_is k
  have rrt : ∀ q ∈ real, rtOK q = true := fun q hq => rtOK_of (by have := m.rs q hq; omega)
  have hre : ratE h real = 0 := ratE_of k m.rl.len rrt
  have hfa : falE h real = 0 := by unfold falE; rw [if_neg (by simp [hre]), if_neg (by simp [m.tr])]
  have hfv : falV h real = someW (falB h real) h.ws.length := by unfold falV; rw [if_pos hfa]
  have hnd : (fewH h).Nodup := f1.lt.imp fun {a b} q => by omega
  have hbd : ∀ x ∈ fewH h, 0 ≤ x ∧ x < (h.ws.length : Int) := fun x hx => by have := f1.mem x hx; omega
  have hwE : wthE h (fewH h) = 0 := by
    unfold wthE
    rw [if_neg (by simp [hc])]
    exact wit_zero _ _ (fun x hx => wgOK_iff.2 (hbd x hx)) hnd (by simp)
  have hwV : wthV h (fewH h) = { h with ws := keepW h (fewH h) } := by unfold wthV; rw [if_pos hwE]
  obtain ⟨lk, la⟩ := less_okN k f2
  have lc := checkH_of lk
  have sE : shoE { h with ws := keepW h (fewH h) } = 0 := by unfold shoE; rw [if_neg (by simp [lc]), if_neg (by simp [la])]
  have sV : shoV { h with ws := keepW h (fewH h) } = shownH { h with ws := keepW h (fewH h) } := by unfold shoV; rw [if_pos sE]
  have sL : ((shoV { h with ws := keepW h (fewH h) }).length : Int) = h.mo := by
    rw [sV, shown_len]
    have := k.mo
    show ((h.mo.toNat : Nat) : Int) = h.mo
    omega
  obtain ⟨s1, s2, s3⟩ := shown_ok lk la
  have hS := false_none lk (by rw [← sV]; exact sL) (shown_rt lk) s2 s3
  refine { fe := hc, fv := by unfold Go.Proofs.YtjnobdcbbboeeaaGreat.fewV; rw [if_neg (by simp [hc])], asc := f1, len := f3, fa := hfa, lied := ?_, cov := f2, wE := hwE, wV := hwV, wL := keep_count h _ _ hnd hbd, sE := by rw [hwV]; exact sE, sL := by rw [hwV]; exact sL, sF := ?_, least := fun l hl hcv => ?_ }
  · rw [hfv, f3]
    refine cov_ge k (fun x hx => ?_) (fal_cov k m.rl m.tr)
    exact (mem_someW.1 hx).1
  · rw [hwV, sV]; exact hS.2.2
  · have q : ¬ fewerL l (fewH h) = true := fun e => by have := f4 l hl e; rw [hcv] at this; cases this
    unfold fewerL at q
    rw [Bool.or_eq_true, not_or, Bool.and_eq_true, decide_eq_true_eq, beq_iff_eq, decide_eq_true_eq] at q
    exact ⟨q.1, fun hle hcm => q.2 ⟨by omega, hcm⟩⟩
end Go.Proofs.YtjnobdcbbboeeaaGreat
