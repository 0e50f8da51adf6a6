/- The plain law of Ring: the bounds found last lead round, sum to less than nothing, and none of them twice. No program stands here. -/
import Derived.Test.YtgnjhaomlbkgcaaWRing
import Derived.Test.YtgnjhaomlbkgcaaWPath
namespace Go.Proofs.Ytgnjhaomlbkgcaa
open Go Go.RowKit
set_option linter.unusedVariables false
set_option linter.unusedSimpArgs false

/-- What is known of the sums behind a number of steps; T: the step of each event's last change; P: that of each bound's last look. -/
structure RG (L : List Bd) (s : RS) (T P : Nat → Nat) (t : Nat) : Prop where
  tle : ∀ x, x < 8 → T x ≤ t
  ple : ∀ j, j < L.length → P j ≤ t
  seen : ∀ j b, L[j]? = some b → 0 < P j → T b.f.toNat ≤ P j → s.sm b.t.toNat ≤ s.sm b.f.toNat + b.m
  led : ∀ x, x < 8 → 0 < T x → ∃ b, L[s.by_ x]? = some b ∧ b.t.toNat = x ∧ s.sm b.f.toNat + b.m ≤ s.sm x ∧ (T x < T b.f.toNat → s.sm b.f.toNat + b.m < s.sm x) ∧ (L.length < T x → T x < T b.f.toNat + L.length)
  inj : ∀ x y, x < 8 → y < 8 → 0 < T x → T x = T y → x = y
  last : s.last < 8 ∧ ∀ x, x < 8 → T x ≤ T s.last
theorem RG.start (L : List Bd) : RG L RS0 (fun _ => 0) (fun _ => 0) 0 :=
  ⟨fun _ _ => Nat.le_refl _, fun _ _ => Nat.le_refl _, fun _ _ _ h _ => by omega, fun _ _ h => by omega, fun _ _ _ _ h _ => by omega, by simp [RS0], fun _ _ => Nat.le_refl _⟩
/-- One bound is looked at. -/
theorem RG.step {L : List Bd} (hL : ∀ b ∈ L, b.ok) (hd : ∀ b ∈ L, b.f ≠ b.t) {s : RS} {T P : Nat → Nat} {t i : Nat} {b : Bd} (h : RG L s T P t) (hi : L[i]? = some b) (hP : (P i = 0 ∧ t < L.length) ∨ (0 < P i ∧ P i + L.length = t + 1)) :
    ∃ T', RG L (rstep s (i, b)) T' (fun j => if j = i then t + 1 else P j) (t + 1) := by
  have hb := List.mem_of_getElem? hi
  obtain ⟨⟨f0, f8⟩, ⟨t0, t8⟩, _⟩ := hL b hb
  have hne : b.f.toNat ≠ b.t.toNat := fun e => hd b hb (by omega)
  have hil : i < L.length := (List.getElem?_eq_some_iff.1 hi).1
  by_cases hlt : s.sm b.f.toNat + b.m < s.sm b.t.toNat
  · refine ⟨fun x => if x = b.t.toNat then t + 1 else T x, ?_⟩
    have hr : rstep s (i, b) = ⟨upd1 s.sm b.t.toNat (s.sm b.f.toNat + b.m), upd1 s.by_ b.t.toNat i, b.t.toNat⟩ := by unfold rstep; rw [if_pos hlt]
    rw [hr]
    have hTf : 0 < P i → P i < T b.f.toNat := fun h0 => by
      rcases Nat.lt_or_ge (P i) (T b.f.toNat) with h1 | h1
      · exact h1
      · have := h.seen i b hi h0 h1; omega
    refine ⟨fun x hx => ?_, fun j hj => ?_, fun j c hj h0 h1 => ?_, fun x hx h0 => ?_, fun x y hx hy h0 he => ?_, by show b.t.toNat < 8; omega, fun x hx => ?_⟩
    · have := h.tle x hx; (try dsimp only); split <;> first | exact Nat.le_refl _ | omega
    · have := h.ple j hj; (try dsimp only); split <;> first | exact Nat.le_refl _ | omega
    · obtain ⟨⟨cf0, cf8⟩, ⟨ct0, ct8⟩, _⟩ := hL c (List.mem_of_getElem? hj)
      have hjl : j < L.length := (List.getElem?_eq_some_iff.1 hj).1
      have hpj := h.ple j hjl
      simp only [upd1] at *
      by_cases hji : j = i
      · subst hji
        rw [hi] at hj; cases hj
        rw [if_pos rfl, if_neg hne]
        exact Int.le_refl _
      · rw [if_neg hji] at h0 h1
        by_cases hcf : c.f.toNat = b.t.toNat
        · rw [if_pos hcf] at h1; omega
        · rw [if_neg hcf] at h1 ⊢
          have h2 := h.seen j c hj h0 h1
          split
          · rename_i e; rw [e] at h2; omega
          · exact h2
    · simp only [upd1] at *
      by_cases hxt : x = b.t.toNat
      · subst hxt
        refine ⟨b, by rw [if_pos rfl]; exact hi, rfl, ?_, ?_, ?_⟩
        · rw [if_neg hne, if_pos rfl]; exact Int.le_refl _
        · rw [if_pos rfl, if_neg hne]; intro hh; have := h.tle b.f.toNat (by omega); omega
        · rw [if_pos rfl, if_neg hne]
          intro hh
          rcases hP with ⟨_, h4⟩ | ⟨h3, h4⟩
          · omega
          · have := hTf h3; omega
      · rw [if_neg hxt] at h0
        obtain ⟨c, c1, c2, c3, c4, c5⟩ := h.led x hx h0
        obtain ⟨⟨cf0, cf8⟩, _⟩ := hL c (List.mem_of_getElem? c1)
        have hT := h.tle x hx
        refine ⟨c, by rw [if_neg hxt]; exact c1, c2, ?_, ?_, ?_⟩
        · rw [if_neg hxt]
          split
          · rename_i e; rw [e] at c3; omega
          · exact c3
        · rw [if_neg hxt, if_neg hxt]
          by_cases e : c.f.toNat = b.t.toNat
          · rw [if_pos e, if_pos e]; intro _; rw [e] at c3; omega
          · rw [if_neg e, if_neg e]; exact c4
        · rw [if_neg hxt]
          intro hh
          have h5 := c5 hh
          split
          · omega
          · exact h5
    · have hx1 := h.tle x hx
      have hy1 := h.tle y hy
      try dsimp only at h0 he
      by_cases hx2 : x = b.t.toNat
      · by_cases hy2 : y = b.t.toNat
        · omega
        · rw [if_pos hx2, if_neg hy2] at he; omega
      · by_cases hy2 : y = b.t.toNat
        · rw [if_neg hx2, if_pos hy2] at he; omega
        · rw [if_neg hx2, if_neg hy2] at he
          rw [if_neg hx2] at h0
          exact h.inj x y hx hy h0 he
    · have := h.tle x hx
      try dsimp only
      rw [if_pos rfl]
      split <;> first | exact Nat.le_refl _ | omega
  · refine ⟨T, ?_⟩
    have hr : rstep s (i, b) = s := by unfold rstep; rw [if_neg hlt]
    rw [hr]
    refine ⟨fun x hx => Nat.le_succ_of_le (h.tle x hx), fun j hj => ?_, fun j c hj h0 h1 => ?_, h.led, h.inj, h.last⟩
    · have := h.ple j hj; (try dsimp only); split <;> first | exact Nat.le_refl _ | omega
    · try dsimp only at h0 h1
      by_cases hji : j = i
      · subst hji
        rw [hi] at hj; cases hj
        omega
      · rw [if_neg hji] at h0 h1
        exact h.seen j c hj h0 h1
/-- The steps at which the bounds were looked at last: in round k, behind so many bounds. -/
def PAt (n k i : Nat) : Nat → Nat := fun j => if j < i then k * n + j + 1 else if k = 0 then 0 else (k - 1) * n + j + 1
theorem RG.congrP {L : List Bd} {s : RS} {T P P' : Nat → Nat} {t : Nat} (h : RG L s T P t) (he : ∀ j, j < L.length → P j = P' j) : RG L s T P' t :=
  ⟨h.tle, fun j hj => by rw [← he j hj]; exact h.ple j hj, fun j b hj h0 h1 => by
    have hl := (List.getElem?_eq_some_iff.1 hj).1
    rw [← he j hl] at h0 h1
    exact h.seen j b hj h0 h1, h.led, h.inj, h.last⟩
theorem RG.round {L : List Bd} (hL : ∀ b ∈ L, b.ok) (hd : ∀ b ∈ L, b.f ≠ b.t) (k : Nat) : ∀ (m i : Nat) {s : RS} {T : Nat → Nat}, i + m = L.length → RG L s T (PAt L.length k i) (k * L.length + i) →
    ∃ T', RG L (rpass s ((numFrom 0 L).drop i)) T' (PAt L.length k L.length) (k * L.length + L.length) := by
  intro m
  induction m with
  | zero =>
    intro i s T hi h
    obtain rfl : i = L.length := by omega
    rw [numFrom_dropEnd L 0 _ (Nat.le_refl _)]
    exact ⟨T, h⟩
  | succ m ih =>
    intro i s T hi h
    obtain ⟨b, hb⟩ := get_of_lt L i (by omega)
    rw [numFrom_get L 0 i b hb, Nat.zero_add]
    show ∃ T', RG L (rpass (rstep s (i, b)) _) T' _ _
    have hP : (PAt L.length k i i = 0 ∧ k * L.length + i < L.length) ∨ (0 < PAt L.length k i i ∧ PAt L.length k i i + L.length = k * L.length + i + 1) := by
      unfold PAt
      rw [if_neg (by omega)]
      cases k with
      | zero => left; simp; omega
      | succ k =>
        right
        rw [if_neg (by omega), Nat.add_sub_cancel, Nat.succ_mul]
        omega
    obtain ⟨T', h'⟩ := h.step hL hd hb hP
    refine ih (i + 1) (by omega) (T := T') (h'.congrP fun j hj => ?_)
    unfold PAt
    by_cases e : j = i
    · rw [if_pos e, if_pos (by omega), e]
    · rw [if_neg e]
      by_cases e2 : j < i
      · rw [if_pos e2, if_pos (by omega)]
      · rw [if_neg e2]
        exact (if_neg (show ¬ j < i + 1 by omega)).symm
theorem RG.rounds {L : List Bd} (hL : ∀ b ∈ L, b.ok) (hd : ∀ b ∈ L, b.f ≠ b.t) : ∀ (n k : Nat) {s : RS} {T : Nat → Nat}, RG L s T (PAt L.length k 0) (k * L.length) →
    ∃ T', RG L (rrun (numFrom 0 L) n s) T' (PAt L.length (k + n) 0) ((k + n) * L.length) := by
  intro n
  induction n with
  | zero => intro k s T h; exact ⟨T, h⟩
  | succ n ih =>
    intro k s T h
    obtain ⟨T', h'⟩ := RG.round hL hd k L.length 0 (by omega) (by simpa using h)
    rw [List.drop_zero] at h'
    rw [show k + (n + 1) = (k + 1) + n by omega]
    refine ih (k + 1) (T := T') ?_
    rw [Nat.succ_mul]
    refine h'.congrP fun j hj => ?_
    unfold PAt
    rw [if_pos hj, if_neg (by omega), if_neg (by omega), Nat.add_sub_cancel]

/-! ### Back from the event that was changed last -/
section
variable {L : List Bd} {s : RS} {T P : Nat → Nat} {t : Nat}
theorem RG.pred (hL : ∀ b ∈ L, b.ok) (h : RG L s T P t) {x : Nat} (hx : x < 8) (h0 : 0 < T x) : predR L s x < 8 ∧ ∃ b, L[s.by_ x]? = some b ∧ b.t.toNat = x ∧ b.f.toNat = predR L s x ∧ s.sm (predR L s x) + b.m ≤ s.sm x ∧ (T x < T (predR L s x) → s.sm (predR L s x) + b.m < s.sm x) ∧ (L.length < T x → T x < T (predR L s x) + L.length) := by
  obtain ⟨b, h1, h2, h3, h4, h5⟩ := h.led x hx h0
  have hp : predR L s x = b.f.toNat := by unfold predR; rw [h1]; rfl
  obtain ⟨⟨f0, f8⟩, _⟩ := hL b (List.mem_of_getElem? h1)
  rw [hp]
  exact ⟨by omega, b, h1, h2, rfl, h3, h4, h5⟩
theorem iterN_succ (f : Nat → Nat) (k x : Nat) : iterN f (k + 1) x = f (iterN f k x) := by
  rw [iterN_add]; rfl
/-- Eight steps back from an event that was changed in the ninth round all have been changed. -/
theorem RG.back (hL : ∀ b ∈ L, b.ok) (h : RG L s T P t) {x : Nat} (hx : x < 8) (h8 : 8 * L.length < T x) : ∀ k, k ≤ 8 → iterN (predR L s) k x < 8 ∧ (8 - k) * L.length < T (iterN (predR L s) k x) := by
  intro k
  induction k with
  | zero => exact fun _ => ⟨hx, h8⟩
  | succ k ih =>
    intro hk
    obtain ⟨h1, h2⟩ := ih (by omega)
    rw [iterN_succ]
    generalize iterN (predR L s) k x = y at *
    obtain ⟨p1, b, _, _, _, _, _, p2⟩ := h.pred hL h1 (by omega)
    refine ⟨p1, ?_⟩
    have e : 8 - k = (8 - (k + 1)) + 1 := by omega
    rw [e, Nat.succ_mul] at h2
    have := p2 (by omega)
    omega
theorem iterN_back {f : Nat → Nat} {x i j : Nat} (hij : i < j) (hj : j ≤ 8) (he : iterN f i x = iterN f j x) : ∀ n m, m ≤ n → ∃ q, q ≤ 8 ∧ iterN f m x = iterN f q x := by
  intro n
  induction n with
  | zero => intro m hm; exact ⟨m, by omega, rfl⟩
  | succ n ih =>
    intro m hm
    by_cases h8 : m ≤ 8
    · exact ⟨m, h8, rfl⟩
    · have e1 : iterN f m x = iterN f (m - j) (iterN f j x) := by rw [← iterN_add]; congr 1; omega
      have e2 : iterN f (i + (m - j)) x = iterN f (m - j) (iterN f i x) := iterN_add _ _ _ _
      obtain ⟨q, hq, e3⟩ := ih (i + (m - j)) (by omega)
      exact ⟨q, hq, by rw [e1, ← he, ← e2, e3]⟩
/-- On and on back, all have been changed. -/
theorem RG.all (hL : ∀ b ∈ L, b.ok) (h : RG L s T P t) {x : Nat} (hx : x < 8) (h8 : 8 * L.length < T x) (m : Nat) : iterN (predR L s) m x < 8 ∧ 0 < T (iterN (predR L s) m x) := by
  obtain ⟨i, j, hij, hj, he⟩ := pigeon (fun i => iterN (predR L s) i x) 8 (fun i hi => (h.back hL hx h8 i hi).1)
  obtain ⟨q, hq, e⟩ := iterN_back hij hj he m m (Nat.le_refl _)
  obtain ⟨h1, h2⟩ := h.back hL hx h8 q hq
  rw [e]
  exact ⟨h1, by omega⟩
end

/-- The first time that it comes back. -/
theorem least_back {f : Nat → Nat} {x : Nat} : ∀ n k, k ≤ n → 1 ≤ k → iterN f k x = x → ∃ j, 1 ≤ j ∧ j ≤ k ∧ iterN f j x = x ∧ ∀ i, 1 ≤ i → i < j → iterN f i x ≠ x := by
  intro n
  induction n with
  | zero => intro k h1 h2; omega
  | succ n ih =>
    intro k hk h1 he
    by_cases hx : ∃ i, 1 ≤ i ∧ i < k ∧ iterN f i x = x
    · obtain ⟨i, i1, i2, i3⟩ := hx
      obtain ⟨j, j1, j2, j3, j4⟩ := ih i (by omega) i1 i3
      exact ⟨j, j1, by omega, j3, j4⟩
    · exact ⟨k, h1, Nat.le_refl _, he, fun i i1 i2 e => hx ⟨i, i1, i2, e⟩⟩
theorem path_is {f : Nat → Nat} {x : Nat} {j : Nat} (hj : iterN f j x = x) (hm : ∀ i, 1 ≤ i → i < j → iterN f i x ≠ x) : ∀ (m k : Nat), 1 ≤ k → k + m = j → ∀ n, m ≤ n → pathR f x n (iterN f k x) = (List.range m).map fun i => iterN f (k + i) x := by
  intro m
  induction m with
  | zero =>
    intro k h1 h2 n _
    rw [show k = j by omega, hj]
    cases n with
    | zero => rfl
    | succ n => unfold pathR; rw [if_pos rfl]; rfl
  | succ m ih =>
    intro k h1 h2 n hn
    cases n with
    | zero => omega
    | succ n =>
      unfold pathR
      rw [if_neg (hm k h1 (by omega)), ← iterN_succ f k x, ih (k + 1) (by omega) (by omega) n (by omega), List.range_succ_eq_map]
      simp only [List.map_cons, Nat.add_zero, List.map_map]
      congr 1
      refine List.map_congr_left fun i _ => ?_
      show iterN f (k + 1 + i) x = iterN f (k + (i + 1)) x
      congr 1; omega

/-- The sum of the bounds by which u is reached. -/
def sumBy (L : List Bd) (s : RS) (u : Nat → Nat) : Nat → Int
  | 0 => 0
  | j + 1 => sumBy L s u j + ((L[s.by_ (u j)]?).map (·.m)).getD 0
theorem along_back {L : List Bd} {s : RS} {u : Nat → Nat} {k : Nat} (hu : ∀ j, j < k → ∃ b, L[s.by_ (u j)]? = some b ∧ b.t = (u j : Int) ∧ b.f = (u (j + 1) : Int)) : ∀ j, j ≤ k → ∀ S : Int, alongC L (u j) S (((List.range j).map fun i => (s.by_ (u i) : Int)).reverse) = some ((u 0 : Int), S + sumBy L s u j) := by
  intro j
  induction j with
  | zero => intro _ S; simp [alongC, sumBy]
  | succ j ih =>
    intro hj S
    obtain ⟨b, h1, h2, h3⟩ := hu j (by omega)
    rw [List.range_succ, List.map_append, List.reverse_append]
    simp only [List.map_cons, List.map_nil, List.reverse_cons, List.reverse_nil, List.nil_append, List.cons_append]
    unfold alongC
    simp only [Int.toNat_natCast, h1]
    rw [if_pos h3, h2, ih (by omega)]
    simp only [sumBy, h1, Option.map_some, Option.getD_some]
    congr 2
    omega

/-- What a ring is. -/
structure RingOK (L : List Bd) (ring : List Int) : Prop where
  two : 2 ≤ ring.length
  len : ring.length ≤ 8
  in_ : ∀ i ∈ ring, 0 ≤ i ∧ i < (L.length : Int)
  nodup : ring.Nodup
  round : ∃ (i : Nat) (b : Bd) (n : Int), ring[0]? = some (i : Int) ∧ L[i]? = some b ∧ n < 0 ∧ alongC L b.f 0 ring = some (b.f, n)

theorem ring_ok {c : Cs} (h0 : checkC c = 0) (hc : clashM (gapsM allT c) = true) : RingOK c.all (ringL c.all) := by
  have hL := checkC_bd h0
  have hd : ∀ b ∈ c.all, b.f ≠ b.t := fun b hb => by
    obtain ⟨_, _, _, _, h5⟩ := checkC_ok h0
    simp only [diffOK, List.all_eq_true] at h5
    simpa using h5 b hb
  have hpos := clash_pos hc
  obtain ⟨T, hG⟩ := RG.rounds hL hd 9 0 (s := RS0) (T := fun _ => 0) (by simpa [PAt] using (RG.start c.all).congrP (P' := PAt c.all.length 0 0) (fun j _ => by simp [PAt]))
  rw [Nat.zero_add] at hG
  have hend : rrun (numFrom 0 c.all) 9 RS0 = endR c.all := rfl
  rw [hend] at hG
  have hlast : 8 * c.all.length < T (endR c.all).last := by
    rcases Nat.lt_or_ge (8 * c.all.length) (T (endR c.all).last) with h | h
    · exact h
    · exfalso
      have ht : TruthOf c.all (fun x => (endR c.all).sm x) := fun b hb => by
        obtain ⟨j, hj, hjb⟩ := List.getElem_of_mem hb
        have hjb' : c.all[j]? = some b := by rw [List.getElem?_eq_getElem hj, hjb]
        obtain ⟨⟨f0, f8⟩, _⟩ := hL b hb
        have h1 := hG.last.2 b.f.toNat (by omega)
        have h2 : PAt c.all.length 9 0 j = 8 * c.all.length + j + 1 := by simp [PAt]
        exact hG.seen j b hjb' (by omega) (by omega)
      have := clash_of h0 (by rw [belL_all]; exact ht.fine)
      rw [hc] at this; cases this
  unfold ringL ringBack startR
  generalize endR c.all = s at *
  generalize PAt c.all.length 9 0 = P at *
  generalize c.all = L at *
  have hx := hG.last.1
  have hall := fun m => hG.all hL hx hlast m
  have hf8 : ∀ x, x < 8 → predR L s x < 8 := fun x _ => by
    unfold predR
    rcases hq : L[s.by_ x]? with _ | b
    · simp
    · obtain ⟨⟨f0, f8⟩, _⟩ := hL b (List.mem_of_getElem? hq)
      simp only [Option.map_some, Option.getD_some]; omega
  obtain ⟨k, k1, k8, hk⟩ := cycle8 hf8 hx
  obtain ⟨j, j1, jk, hj, hmin⟩ := least_back k k (Nat.le_refl _) k1 hk
  obtain ⟨st, hst⟩ : ∃ st, iterN (predR L s) 8 s.last = st := ⟨_, rfl⟩
  rw [hst] at hj hmin ⊢
  obtain ⟨u, hu⟩ : ∃ u : Nat → Nat, u = fun i => iterN (predR L s) i st := ⟨_, rfl⟩
  have hui : ∀ i, u i = iterN (predR L s) i st := fun i => by rw [hu]
  have hu8 : ∀ i, u i < 8 ∧ 0 < T (u i) := fun i => by
    have := hall (8 + i)
    rw [iterN_add, hst] at this
    rw [hui]; exact this
  have hus : ∀ i, u (i + 1) = predR L s (u i) := fun i => by rw [hui, hui, iterN_succ]
  have hb : ∀ i, ∃ b, L[s.by_ (u i)]? = some b ∧ b.t = (u i : Int) ∧ b.f = (u (i + 1) : Int) ∧ s.sm (u (i + 1)) + b.m ≤ s.sm (u i) ∧ (T (u i) < T (u (i + 1)) → s.sm (u (i + 1)) + b.m < s.sm (u i)) := fun i => by
    obtain ⟨_, b, h1, h2, h3, h4, h5, _⟩ := hG.pred hL (hu8 i).1 (hu8 i).2
    rw [← hus] at h3 h4 h5
    obtain ⟨⟨f0, _⟩, ⟨t0, _⟩, _⟩ := hL b (List.mem_of_getElem? h1)
    exact ⟨b, h1, by omega, by omega, h4, h5⟩
  have hne1 : u 1 ≠ u 0 := fun e => by
    obtain ⟨b, h1, h2, h3, _⟩ := hb 0
    exact hd b (List.mem_of_getElem? h1) (by rw [h2, h3, Nat.zero_add, e])
  have hu0 : u 0 = st := by rw [hui]; rfl
  have huj : u j = u 0 := by rw [hui, hj, hu0]
  have j2 : 2 ≤ j := by
    rcases Nat.lt_or_ge j 2 with h | h
    · obtain rfl : j = 1 := by omega
      exact absurd huj hne1
    · exact h
  have hlist : st :: pathR (predR L s) st 8 (predR L s st) = (List.range j).map u := by
    have := path_is hj hmin (j - 1) 1 (Nat.le_refl _) (by omega) 8 (by omega)
    rw [show predR L s st = iterN (predR L s) 1 st from rfl, this]
    obtain ⟨n, rfl⟩ : ∃ n, j = n + 1 := ⟨j - 1, by omega⟩
    rw [List.range_succ_eq_map, Nat.add_sub_cancel]
    simp only [List.map_cons, List.map_map, hu0]
    congr 1
    refine List.map_congr_left fun i _ => ?_
    show iterN (predR L s) (1 + i) st = u (i + 1)
    rw [hui]; congr 1; omega
  rw [hlist, List.map_map]
  have hcomp : ((fun x => (s.by_ x : Int)) ∘ u) = fun i => (s.by_ (u i) : Int) := rfl
  rw [hcomp]
  have hsum : ∀ i, i ≤ j → sumBy L s u i ≤ s.sm (u 0) - s.sm (u i) ∧ (sumBy L s u i < s.sm (u 0) - s.sm (u i) ∨ (1 ≤ i → T (u i) ≤ T (u 1) ∧ T (u 1) ≤ T (u 0))) := by
    intro i
    induction i with
    | zero => intro _; exact ⟨by simp [sumBy], .inr fun h => by omega⟩
    | succ i ih =>
      intro hi
      obtain ⟨h1, h2⟩ := ih (by omega)
      obtain ⟨b, b1, b2, b3, b4, b5⟩ := hb i
      have e : sumBy L s u (i + 1) = sumBy L s u i + b.m := by simp [sumBy, b1]
      rw [e]
      refine ⟨by omega, ?_⟩
      rcases h2 with h2 | h2
      · left; omega
      · rcases Nat.lt_or_ge (T (u i)) (T (u (i + 1))) with h3 | h3
        · left; have := b5 h3; omega
        · right
          intro _
          rcases Nat.eq_zero_or_pos i with h4 | h4
          · subst h4; exact ⟨Nat.le_refl _, h3⟩
          · have := h2 h4; omega
  refine ⟨by simpa using j2, by simp; omega, fun i hi => ?_, ?_, ?_⟩
  · rw [List.mem_reverse, List.mem_map] at hi
    obtain ⟨a, _, rfl⟩ := hi
    obtain ⟨b, h1, _⟩ := hb a
    have := (List.getElem?_eq_some_iff.1 h1).1
    omega
  · unfold List.Nodup
    rw [List.pairwise_reverse, List.pairwise_map]
    refine List.Pairwise.imp_of_mem ?_ List.pairwise_lt_range
    intro a b ha hb' hab e0
    have e := e0.symm
    rw [List.mem_range] at ha hb'
    have e1 : s.by_ (u a) = s.by_ (u b) := by omega
    obtain ⟨x, x1, x2, _⟩ := hb a
    obtain ⟨y, y1, y2, _⟩ := hb b
    rw [e1, y1] at x1
    cases x1
    have e2 : u a = u b := by omega
    have e3 : iterN (predR L s) (a + (j - b)) st = st := by
      rw [iterN_add, ← hui, e2, hui, ← iterN_add, show b + (j - b) = j by omega]; exact hj
    exact hmin _ (by omega) (by omega) e3
  · obtain ⟨b, h1, h2, h3, _⟩ := hb (j - 1)
    rw [show j - 1 + 1 = j by omega, huj] at h3
    have hal := along_back (L := L) (s := s) (u := u) (k := j) (fun i _ => by obtain ⟨b, q1, q2, q3, _⟩ := hb i; exact ⟨b, q1, q2, q3⟩) j (Nat.le_refl _) 0
    rw [huj, Int.zero_add] at hal
    refine ⟨s.by_ (u (j - 1)), b, sumBy L s u j, ?_, h1, ?_, by rw [h3]; exact hal⟩
    · rw [List.getElem?_reverse (by simp; omega)]
      simp only [List.length_map, List.length_range, List.getElem?_map, Nat.sub_zero]
      rw [List.getElem?_range (by omega)]; rfl
    · obtain ⟨g1, g2⟩ := hsum j (Nat.le_refl _)
      rw [huj] at g1 g2
      rcases g2 with g2 | g2
      · omega
      · have g3 := g2 (by omega)
        exact absurd (hG.inj (u 1) (u 0) (hu8 1).1 (hu8 0).1 (hu8 1).2 (by omega)) hne1
end Go.Proofs.Ytgnjhaomlbkgcaa
