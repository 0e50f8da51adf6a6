/- The region theorem where some operations that ask nothing of memory stand behind the head: they are taken first. -/
import Derived.Test.YtjnobdcbbboeeaaGreatH2
namespace Go.Proofs.YtjnobdcbbboeeaaGreat
open Go Go.RowKit
set_option linter.unusedVariables false
set_option linter.unusedSimpArgs false

section
variable {P : Program} {ops : Array Oper} {md : Region.Mode} {E : World → World → Prop} {C : World → Prop} {T : Nat → Option (Value → World → Prop)}

def preGo (md : Region.Mode) (ops : Array Oper) (k : Array Bool → Bool) : List Nat → Array Bool → Bool
  | [], listed => k listed
  | p :: ps, listed => (Region.ready md ops listed).contains p && Region.free md ops listed p && preGo md ops k ps (listed.setIfInBounds p true)
def seqL (md : Region.Mode) (ops : Array Oper) : List Nat → Array Bool → Bool
  | [], listed => (Region.ready md ops listed).isEmpty
  | t :: ts, listed => decide (Region.ready md ops listed = [t]) && seqL md ops ts (listed.setIfInBounds t true)
def chainL (md : Region.Mode) (ops : Array Oper) : Nat → List Nat → Bool
  | _, [] => true
  | t, u :: us => Region.waitsFor md ops u t && chainL md ops u us
/-- The head: operations below n; pre: operations behind it that are taken first; n :: tl: what is left, in a forced order. -/
def preB (md : Region.Mode) (ops : Array Oper) (n : Nat) (pre tl : List Nat) : Bool :=
  Region.noSelect ops && decide (n < ops.size) && Region.sinkB md ops n && chainL md ops n tl && pre.all (fun p => decide (n < p)) && tl.all (fun t => decide (n < t ∧ t < ops.size ∧ t ∉ pre)) &&
    (List.range ops.size).all (fun t => decide (t ≤ n ∨ t ∈ pre ∨ t ∈ tl)) && preGo md ops (fun listed => decide (listed.size = ops.size) && lexHeadF md ops (seqL md ops (n :: tl)) n 0 listed) pre (Array.replicate ops.size false)
def preW (P : Program) (ops : Array Oper) (K : Act → Prop) : List Nat → Act → Prop
  | [], a => K a
  | p :: ps, a => ∃ o v, ops[p]? = some o ∧ Yields P ops o v a ∧ preW P ops K ps (a.put o.dst v)

theorem seqL_ready {t : Nat} {ts : List Nat} {n : Nat} {listed : Array Bool} (h : seqL md ops (t :: ts) listed = true) (ht : n ≤ t) : ∀ j ∈ Region.ready md ops listed, n ≤ j := by
  intro j hj
  simp only [seqL, Bool.and_eq_true, decide_eq_true_eq] at h
  rw [h.1] at hj
  have : j = t := by simpa using hj
  omega
theorem wpAny_of_seqL {Q' : Exit → Act → World → Prop} : ∀ (l : List Oper) (ts : List Nat) (listed : Array Bool) (a : Act) (w : World), l.map some = ts.map (ops[·]?) →
    seqL md ops ts listed = true → wpList P ops Q' l a w → wpAny P md ops Q' ts.length listed a w
  | [], [], _, _, _, _, hB, h => ⟨by simpa [seqL] using hB, h⟩
  | o :: l, t :: ts, listed, a, w, hl, hB, h => by
    simp only [List.map_cons, List.cons.injEq] at hl
    have h0 : ops[t]? = some o := hl.1.symm
    simp only [seqL, Bool.and_eq_true, decide_eq_true_eq] at hB
    refine ⟨fun h1 => (by rw [hB.1] at h1; cases h1), fun i hi => ?_⟩
    rw [hB.1] at hi
    have hik : i = t := by simpa using hi
    subst hik
    have hw : wpOp P ops Q' i (wpList P ops Q' l) a w := by unfold wpOp; simp only [h0]; exact h
    exact wpOp_mono (fun a' w' h' => wpAny_of_seqL l ts _ a' w' hl.2 hB.2 h') hw
  | [], t :: ts, _, _, _, hl, _, _ => by cases hl
  | o :: l, [], _, _, _, hl, _, _ => by cases hl

structure PreInv (md : Region.Mode) (ops : Array Oper) (n : Nat) (pre tl : List Nat) (listed : Array Bool) : Prop where
  size : listed.size = ops.size
  closed : ∀ j oj, ops[j]? = some oj → listed.getD j false = true → ∀ e ∈ oj.after, Region.binds md e = true → listed.getD e.on false = true
  tail : ∀ t ∈ n :: tl, listed.getD t true = false
  pre_ : ∀ p ∈ pre, listed.getD p true = true

theorem closed_set {i : Nat} {listed : Array Bool} (hc : ∀ j oj, ops[j]? = some oj → listed.getD j false = true → ∀ e ∈ oj.after, Region.binds md e = true → listed.getD e.on false = true) (hi : i ∈ Region.ready md ops listed) :
    ∀ j oj, ops[j]? = some oj → (listed.setIfInBounds i true).getD j false = true → ∀ e ∈ oj.after, Region.binds md e = true → (listed.setIfInBounds i true).getD e.on false = true := by
  obtain ⟨_, oi, hoi, hall⟩ := mem_ready.1 hi
  intro j oj hj hl e he hb
  by_cases hij : i = j
  · subst hij
    have : oj = oi := Option.some.inj (hj.symm.trans hoi)
    subst this
    exact getD_set_true (hall e he hb)
  · rw [getD_set_ne false hij] at hl
    exact getD_set_true (hc j oj hj hl e he hb)

theorem PreInv.set {n i : Nat} {pre tl : List Nat} {listed : Array Bool} (htl : ∀ t ∈ tl, n < t) (hpre : ∀ p ∈ pre, n < p) (inv : PreInv md ops n pre tl listed) (hi : i ∈ Region.ready md ops listed) (hin : i < n) : PreInv md ops n pre tl (listed.setIfInBounds i true) := by
  refine ⟨by simp [inv.size], closed_set inv.closed hi, fun t ht => ?_, fun p hp => ?_⟩
  · have : n ≤ t := by
      rcases List.mem_cons.1 ht with rfl | h
      · exact Nat.le_refl _
      · exact Nat.le_of_lt (htl t h)
    rw [getD_set_ne true (by omega)]; exact inv.tail t ht
  · rw [getD_set_ne true (by have := hpre p hp; omega)]; exact inv.pre_ p hp

theorem pre_waits {n : Nat} {pre tl : List Nat} {listed : Array Bool} (hs : Region.sinkB md ops n = true) (hn : n < ops.size) (inv : PreInv md ops n pre tl listed) :
    ∀ (d i : Nat), n - i = d → i < n → listed.getD i true = false → n ∉ Region.ready md ops listed := by
  intro d
  induction d using Nat.strongRecOn with
  | _ d ih =>
    intro i hd hi hun hr
    obtain ⟨_, ot, hot, hall⟩ := mem_ready.1 hr
    have h1 := List.all_eq_true.1 hs i (List.mem_range.2 hi)
    obtain ⟨j, hj, hj2⟩ := List.any_eq_true.1 h1
    simp only [Bool.and_eq_true, decide_eq_true_eq] at hj2
    obtain ⟨oj, hoj, e, he, hb, hon⟩ := Region.waitsFor_spec hj2.2
    have hjle : j ≤ n := by have := List.mem_range.1 hj; omega
    by_cases hjt : j = n
    · subst hjt
      have : oj = ot := Option.some.inj (hoj.symm.trans hot)
      subst this
      have h2 := hall e he hb
      rw [hon, getD_both hun] at h2
      cases h2
    · cases hl : listed.getD j false with
      | true =>
        have h2 := inv.closed j oj hoj hl e he hb
        rw [hon, getD_both hun] at h2
        cases h2
      | false =>
        have hjs : j < listed.size := by rw [inv.size]; omega
        exact ih (n - j) (by omega) j rfl (by omega) (getD_in hjs hl) hr
theorem chain_waits {listed : Array Bool} : ∀ (tl : List Nat) (t0 : Nat), chainL md ops t0 tl = true → (∀ t ∈ t0 :: tl, listed.getD t true = false) → ∀ u ∈ tl, u ∉ Region.ready md ops listed := by
  intro tl
  induction tl with
  | nil => intro t0 _ _ u hu; cases hu
  | cons u us ih =>
    intro t0 hc hun v hv
    simp only [chainL, Bool.and_eq_true] at hc
    rcases List.mem_cons.1 hv with rfl | hv
    · intro hr
      obtain ⟨_, ot, hot, hall⟩ := mem_ready.1 hr
      obtain ⟨o', ho', e, he, hb, hon⟩ := Region.waitsFor_spec hc.1
      have : o' = ot := Option.some.inj (ho'.symm.trans hot)
      subst this
      have h2 := hall e he hb
      rw [hon, getD_both (hun t0 (by simp))] at h2
      cases h2
    · exact ih u hc.2 (fun t ht => hun t (by simp only [List.mem_cons] at ht ⊢; exact .inr ht)) v hv

theorem wpAny_pre {n : Nat} {tl : List Nat} {Q : Exit → Act → World → Prop} {K : Act → Prop} {w : World} {kB : Array Bool → Bool} (hsel : Region.noSelect ops = true) (hQ : ∀ c a v d w, Q (.panic c) (a.put d v) w → Q (.panic c) a w) (m : Nat) (all : List Nat) (hd : ∀ p ∈ all, n < p) (hdj : ∀ t ∈ n :: tl, t ∉ all)
    (hK : ∀ listed a, PreInv md ops n all tl listed → kB listed = true → K a → (∀ k, k < n → listed.getD k true = false) → wpAny P md ops Q m listed a w) : ∀ (ps done : List Nat) (listed : Array Bool) (a : Act), all = done ++ ps → listed.size = ops.size →
    (∀ j oj, ops[j]? = some oj → listed.getD j false = true → ∀ e ∈ oj.after, Region.binds md e = true → listed.getD e.on false = true) → (∀ p ∈ done, listed.getD p true = true) → (∀ k, k < ops.size → k ∉ done → listed.getD k true = false) → (∀ t ∈ n :: tl, t < ops.size) →
    preGo md ops kB ps listed = true → preW P ops K ps a → wpAny P md ops Q (m + ps.length) listed a w
  | [], done, listed, a, hall, hsz, hcl, hpr, hun, htl, hB, h => by
    simp only [List.append_nil] at hall
    subst hall
    exact hK listed a ⟨hsz, hcl, fun t ht => hun t (htl t ht) (hdj t ht), hpr⟩ hB h (fun k hk => hun k (by have := htl n (by simp); omega) (fun hm => by have := hd k hm; omega))
  | p :: ps, done, listed, a, hall, hsz, hcl, hpr, hun, htl, hB, h => by
    simp only [preGo, Bool.and_eq_true] at hB
    obtain ⟨⟨hr, hf⟩, hB'⟩ := hB
    obtain ⟨o, v, ho, hy, hw⟩ := h
    have hr' : p ∈ Region.ready md ops listed := by simpa using hr
    have hplt : p < listed.size := by
      rcases Nat.lt_or_ge p listed.size with h | h
      · exact h
      · have := (mem_ready.1 hr').1; simp [Array.getElem?_eq_none h] at this
    rw [List.length_cons, ← Nat.add_assoc]
    refine wpAny_take ho hsel hf hr (fun c a w => hQ c a v _ w) hy ?_
    refine wpAny_pre hsel hQ m all hd hdj hK ps (done ++ [p]) _ _ (by simp [hall]) (by simp [hsz]) (closed_set hcl hr') (fun q hq => ?_) (fun k hk hkd => ?_) htl hB' hw
    · by_cases hpq : p = q
      · subst hpq; simp [hplt]
      · rw [getD_set_ne true hpq]
        rcases List.mem_append.1 hq with h1 | h1
        · exact hpr q h1
        · exact absurd (by simpa using h1) (Ne.symm hpq)
    · simp only [List.mem_append, List.mem_singleton, not_or] at hkd
      rw [getD_set_ne true (Ne.symm hkd.2)]
      exact hun k hk hkd.1

def pickL (l : List Oper) (ts : List Nat) : List Oper := ts.filterMap fun t => (l.drop t).head?
theorem pickL_map (l : List Oper) : ∀ ts : List Nat, (∀ t ∈ ts, t < l.length) → (pickL l ts).map some = ts.map (l.toArray[·]?) := by
  intro ts
  induction ts with
  | nil => intro _; rfl
  | cons t ts ih =>
    intro h
    have ht := h t (by simp)
    have h1 : (l.drop t).head? = some l[t] := by rw [List.head?_drop, List.getElem?_eq_getElem ht]
    have h2 := ih (fun u hu => h u (by simp [hu]))
    unfold pickL at *
    rw [List.filterMap_cons, h1]
    simp only [List.map_cons, h2]
    congr 1
    simp [ht]

theorem wp_region_opens_pre {id : Nat} {Q : Exit → Act → World → Prop} {a : Act} {w : World} {l : List Oper} (E : World → World → Prop) (C : World → Prop) (T : Nat → Option (Value → World → Prop)) (n : Nat) (pre tl : List Nat) (hm : P.follows .mixedOrders = true) (hB : preB .any l.toArray n pre tl = true)
    (hQ : ∀ c a v t w, Q (.panic c) (a.put (some t) v) w → Q (.panic c) a w)
    (hC : Up E C) (hT : ∀ i R, T i = some R → ∀ v, Up E (R v)) (hw : C w.drew) (hlen : n + (n :: tl).length + pre.length = l.length)
    (h : preW P l.toArray (fun a => wpM P .any l.toArray E C T (fun a' F' => ∀ w', C w' → (∀ k, F' k w') → wpList P l.toArray Q (pickL l (n :: tl)) a' w') (l.take n) 0 a noFacts) pre a) : (Code.region id l.toArray true).wp P Q a w := by
  simp only [preB, Bool.and_eq_true, decide_eq_true_eq, List.all_eq_true] at hB
  obtain ⟨⟨⟨⟨⟨⟨⟨hsel, hn⟩, hs⟩, hc⟩, hpre⟩, htl⟩, hcov⟩, hgo⟩ := hB
  have hn' : n < l.length := by simpa using hn
  have htk : (l.take n).length = n := by simp; omega
  have hops : (pickL l (n :: tl)).map some = (n :: tl).map (l.toArray[·]?) := pickL_map l (n :: tl) fun t ht => by
    rcases List.mem_cons.1 ht with rfl | h1
    · exact hn'
    · have := (htl t h1).2.1; simpa using this
  refine wp_region_any hm ?_
  have hbd : ∀ listed, PreInv .any l.toArray n pre tl listed → ∀ i, i < n → listed.getD i true = false → ∀ t, n ≤ t → t ∉ Region.ready .any l.toArray listed := by
    intro listed inv i hi hun t ht hr
    by_cases htn : t = n
    · subst htn; exact pre_waits hs hn inv _ i rfl hi hun hr
    · have htlt : t < l.toArray.size := by
        obtain ⟨_, o, ho, _⟩ := mem_ready.1 hr
        exact (Array.getElem?_eq_some_iff.1 ho).1
      rcases hcov t (List.mem_range.2 htlt) with h1 | h1 | h1
      · omega
      · have := inv.pre_ t h1
        have h2 := (mem_ready.1 hr).1
        rw [this] at h2; cases h2
      · exact chain_waits tl n hc inv.tail t h1 hr
  have := wpAny_pre (md := .any) (n := n) (tl := tl) (Q := Q) (w := w.drew) (K := fun a => wpM P .any l.toArray E C T (fun a' F' => ∀ w', C w' → (∀ k, F' k w') → wpList P l.toArray Q (pickL l (n :: tl)) a' w') (l.take n) 0 a noFacts) hsel (fun c a v d w h => by cases d with | none => exact h | some t => exact hQ c a v t w h) (n + (n :: tl).length) pre hpre (fun t ht => by
      rcases List.mem_cons.1 ht with rfl | h1
      · intro hm; have := hpre t hm; omega
      · exact (htl t h1).2.2) (fun listed a inv hk hK hun => by
      simp only [Bool.and_eq_true] at hk
      have H := wpAnyM_lexI (md := .any) (I := PreInv .any l.toArray n pre tl) (fun listed i inv hi hin => inv.set (fun t ht => (htl t ht).1) hpre hi hin) (fin := seqL .any l.toArray (n :: tl)) (fun listed h => seqL_ready h (Nat.le_refl _)) hC hT hsel hbd (l.take n) 0 listed a noFacts (fun j hj => by
        have hj' : j < n := by rw [htk] at hj; exact hj
        simp [hj']) (by simpa using htk) (fun _ _ _ _ _ => trivial) ⟨_, hw, fun _ => trivial⟩ (fun _ _ _ => trivial) inv (by rw [htk]; exact hk.2) hK
      have h2 := wpAny_of_M (Q' := Q) (g := (n :: tl).length) hC hT (fun listed a' F' w' hL hw' hF' => wpAny_of_seqL (pickL l (n :: tl)) (n :: tl) listed a' w' hops hL.1 (hL.2 w' hw' hF')) _ _ _ _ _ (fun _ _ _ _ _ => trivial) hw (fun _ => trivial) H
      rw [htk] at h2
      exact h2) pre [] (Array.replicate l.toArray.size false) a (by simp) (by simp) (fun j oj _ hl => (by rw [getD_replicate_false] at hl; cases hl)) (fun p hp => by cases hp) (fun k hk _ => getD_in (by simpa using hk) (getD_replicate_false _ _)) (fun t ht => by
        rcases List.mem_cons.1 ht with rfl | h1
        · exact hn
        · exact (htl t h1).2.1) hgo h
  rw [show n + (n :: tl).length + pre.length = l.toArray.size by rw [hlen]; simp] at this
  exact this
end
end Go.Proofs.YtjnobdcbbboeeaaGreat
