/- A region that draws its order, with one edge more: a lone extract that may float behind an operation may be taken ahead of it. No program stands here. -/
import Derived.Test.YtgnjhaomlbkgcaaRegion2
namespace Go.Proofs.Ytgnjhaomlbkgcaa
open Go

section
variable {P : Program} {ops : Array Oper} {md : Region.Mode} {Q : Exit → Act → World → Prop}

theorem extract_op {o : Oper} {x : Operand} {ix p : Nat} {K : Act → World → Prop} {a : Act} {w : World} (hp : ops[p]? = some o) (ho : o.op = .extract x ix) (hg : o.guard = none) (h : wpOp P ops Q p K a w) : ∃ v, Yields P ops o v a ∧ K (a.put o.dst v) w := by
  unfold wpOp at h
  simp only [hp] at h
  have hw : Region.wanted o (yielded ops a.tmps) = true := by simp [Region.wanted, hg]
  rw [if_pos hw] at h
  have he : execOp a.eval o = (do let u ← Instr.extract (a.eval x) ix; pure (Next.value u)) := by unfold execOp; rw [ho]
  rcases h with h | ⟨⟨h, _⟩, _⟩
  · unfold Oper.wp at h
    rw [he] at h
    unfold Instr.extract at h he
    split at h
    · rename_i vs hx
      simp only [hx] at he
      split at h
      · rename_i v hv
        simp only [hv] at he
        refine ⟨v, .inl ⟨hw, fun w => by rw [he]; simp⟩, by simpa [Oper.upon] using h⟩
      · simp [Oper.upon, stuck] at h
    · simp [Oper.upon, stuck] at h
  · exfalso
    rw [he] at h
    unfold Instr.extract at h
    split at h
    · split at h
      · exact absurd (show noRoomEvent ∈ (#[] : Array Event) from h) (by simp)
      · exact absurd (show noRoomEvent ∈ (#[] : Array Event) from h) (by simp)
    · exact absurd (show noRoomEvent ∈ (#[] : Array Event) from h) (by simp)

def edged (o : Oper) (p : Nat) : Oper := { o with after := o.after.push ⟨p, .data⟩ }
def addEdge : List Oper → Nat → Nat → List Oper
  | [], _, _ => []
  | o :: l, 0, p => edged o p :: l
  | o :: l, n + 1, p => o :: addEdge l n p
theorem addEdge_get : ∀ (l : List Oper) (n p k : Nat), (addEdge l n p)[k]? = if k = n then (l[k]?).map (edged · p) else l[k]?
  | [], n, p, k => by simp [addEdge]
  | o :: l, 0, p, 0 => by simp [addEdge]
  | o :: l, 0, p, k + 1 => by simp [addEdge]
  | o :: l, n + 1, p, 0 => by simp [addEdge]
  | o :: l, n + 1, p, k + 1 => by simp [addEdge, addEdge_get l n p k]
theorem addEdge_len : ∀ (l : List Oper) (n p : Nat), (addEdge l n p).length = l.length
  | [], n, p => rfl
  | o :: l, 0, p => rfl
  | o :: l, n + 1, p => by simp [addEdge, addEdge_len l n p]

variable {l : List Oper} {n p : Nat}
theorem edge_yielded (tmps : Array Value) : yielded (addEdge l n p).toArray tmps = yielded l.toArray tmps := by
  funext j
  have h : ((addEdge l n p).toArray[j]?).bind (·.dst) = (l.toArray[j]?).bind (·.dst) := by
    simp only [List.getElem?_toArray, addEdge_get]
    by_cases hj : j = n
    · rw [if_pos hj]; cases l[j]? <;> rfl
    · rw [if_neg hj]
  unfold yielded
  rw [h]
theorem edge_op {i : Nat} {K : Act → World → Prop} {a : Act} {w : World} : wpOp P (addEdge l n p).toArray Q i K a w = wpOp P l.toArray Q i K a w := by
  unfold wpOp
  simp only [List.getElem?_toArray, addEdge_get, edge_yielded]
  by_cases hj : i = n
  · rw [if_pos hj]; cases l[i]? <;> rfl
  · rw [if_neg hj]
theorem edge_ready {listed : Array Bool} {j : Nat} : j ∈ Region.ready .any (addEdge l n p).toArray listed ↔ j ∈ Region.ready .any l.toArray listed ∧ (j = n → listed.getD p false = true) := by
  rw [mem_ready, mem_ready]
  simp only [List.getElem?_toArray, addEdge_get]
  by_cases hj : j = n
  · simp only [hj, if_true, true_implies]
    cases h : l[n]? with
    | none => simp
    | some o =>
      simp only [Option.map_some, Option.some.injEq, exists_eq_left', edged]
      constructor
      · rintro ⟨h1, h2⟩
        exact ⟨⟨h1, fun e he hb => h2 e (by simp [he]) hb⟩, h2 ⟨p, .data⟩ (by simp) rfl⟩
      · rintro ⟨⟨h1, h2⟩, h3⟩
        refine ⟨h1, fun e he hb => ?_⟩
        rcases Array.mem_push.1 he with he | rfl
        · exact h2 e he hb
        · exact h3
  · simp [hj]
/-- What is asked of the two: the one that floats waits for nothing that the other does not wait for, and stands apart from all that does not wait for it. -/
def edgeB (l : List Oper) (n p : Nat) : Bool :=
  Region.noSelect l.toArray && decide (p < l.length) && decide (p ≠ n) &&
  match l[n]?, l[p]? with
  | some on, some op => (op.after.all fun e => !Region.binds .any e || on.after.any fun e' => Region.binds .any e' && e'.on == e.on) && op.guard.isNone && (match op.op with | .extract _ _ => true | _ => false) &&
      (List.range l.length).all fun j => j == p || (on.after.any fun e => Region.binds .any e && e.on == j) || match l[j]? with
        | some oj => oj.after.any (fun e => Region.binds .any e && e.on == p) || op.apart l.toArray oj
        | none => true
  | _, _ => false
theorem wpAny_edge (hB : edgeB l n p = true) (hQ : ∀ c a v t w, Q (.panic c) (a.put (some t) v) w → Q (.panic c) a w) : ∀ (f : Nat) (listed : Array Bool) (a : Act) (w : World), listed.size = l.length →
    wpAny P .any (addEdge l n p).toArray Q f listed a w → wpAny P .any l.toArray Q f listed a w := by
  unfold edgeB at hB
  split at hB
  case h_2 => simp at hB
  rename_i on op hn hp
  simp only [Bool.and_eq_true, decide_eq_true_eq, List.all_eq_true, Bool.or_eq_true, Bool.not_eq_true', List.any_eq_true, List.mem_range, beq_iff_eq, Array.all_eq_true', Array.any_eq_true'] at hB
  obtain ⟨⟨⟨hsel, hpl⟩, hpn⟩, ⟨⟨hdep, hgd⟩, hex⟩, hap⟩ := hB
  have hpr : ∀ listed : Array Bool, n ∈ Region.ready .any l.toArray listed → listed.getD p true = false → p ∈ Region.ready .any l.toArray listed := fun listed h1 h2 => by
    obtain ⟨_, o', ho', hall⟩ := mem_ready.1 h1
    obtain rfl : on = o' := Option.some.inj (hn.symm.trans (by simpa using ho'))
    refine mem_ready.2 ⟨h2, op, by simpa using hp, fun e he hb => ?_⟩
    rcases hdep e he with h3 | ⟨e', he', hb', heq⟩
    · rw [hb] at h3; cases h3
    · rw [← heq]; exact hall e' he' hb'
  obtain ⟨x, ix, hopx⟩ : ∃ x ix, op.op = .extract x ix := by
    cases hq : op.op <;> simp [hq] at hex
    exact ⟨_, _, rfl⟩
  have hgn : op.guard = none := by simpa using hgd
  intro f
  induction f with
  | zero =>
    rintro listed a w hsz ⟨h1, h2⟩
    refine ⟨List.eq_nil_iff_forall_not_mem.2 fun j hj => ?_, h2⟩
    have hno : ∀ j, ¬ j ∈ Region.ready .any (addEdge l n p).toArray listed := fun j h => by rw [h1] at h; cases h
    by_cases hjn : j = n
    · subst hjn
      by_cases hu : listed.getD p true = false
      · exact hno p (edge_ready.2 ⟨hpr listed hj hu, fun e => absurd e hpn⟩)
      · exact hno j (edge_ready.2 ⟨hj, fun _ => by
          have : p < listed.size := by omega
          simp [Array.getD, this] at hu ⊢; exact hu⟩)
    · exact hno j (edge_ready.2 ⟨hj, fun e => absurd e hjn⟩)
  | succ f ih =>
    rintro listed a w hsz ⟨h1, h2⟩
    by_cases hc : n ∈ Region.ready .any l.toArray listed ∧ listed.getD p true = false
    · have hp1 := hpr listed hc.1 hc.2
      have := h2 p (edge_ready.2 ⟨hp1, fun e => absurd e hpn⟩)
      rw [edge_op] at this
      obtain ⟨v, hy, hk⟩ := extract_op (by simpa using hp) hopx hgn this
      refine wpAny_take (oi := op) (by simpa using hp) hsel ?_ (by simpa using hp1) (fun c a w h => ?_) hy (ih _ _ _ (by simpa using hsz) hk)
      · unfold Region.free
        simp only [List.getElem?_toArray, hp]
        rw [List.all_eq_true]
        intro j hj
        have hjl : j < l.length := by simpa using hj
        rcases hap j hjl with (h3 | ⟨e, he, hb, h3⟩) | h3
        · simp [h3]
        · obtain ⟨_, o', ho', hall⟩ := mem_ready.1 hc.1
          obtain rfl : on = o' := Option.some.inj (hn.symm.trans (by simpa using ho'))
          have h4 := hall e he hb
          rw [h3] at h4
          have : listed.getD j true = true := by
            have : j < listed.size := by omega
            simp [Array.getD, this] at h4 ⊢; exact h4
          simp [this]
        · simp only [Bool.or_eq_true]
          refine .inr ?_
          cases hq : l[j]? with
          | none => rfl
          | some oj => rw [hq] at h3; simpa using h3
      · cases hd : op.dst with
        | none => rw [hd] at h; exact h
        | some t => rw [hd] at h; exact hQ c a v t w h
    · have hmem : ∀ j, j ∈ Region.ready .any l.toArray listed → j ∈ Region.ready .any (addEdge l n p).toArray listed := fun j hj => edge_ready.2 ⟨hj, fun e => by
        subst e
        have h3 : ¬ listed.getD p true = false := fun h => hc ⟨hj, h⟩
        have : p < listed.size := by omega
        simp [Array.getD, this] at h3 ⊢; exact h3⟩
      refine ⟨fun h => h1 (List.eq_nil_iff_forall_not_mem.2 fun j hj => ?_), fun i hi => ?_⟩
      · have := (edge_ready.1 hj).1; rw [h] at this; cases this
      · have := h2 i (hmem i hi)
        rw [edge_op] at this
        exact wpOp_mono (fun a w h => ih _ _ _ (by simpa using hsz) h) this
variable {E : World → World → Prop} {C : World → Prop} {T : Nat → Option (Value → World → Prop)}
/-- All operations but a tail in a forced order; an extract that the tail's first does not wait for is taken ahead of it. -/
theorem wp_region_opens_edge {id : Nat} {a : Act} {w : World} {l l' : List Oper} (E : World → World → Prop) (C : World → Prop) (T : Nat → Option (Value → World → Prop)) (n p : Nat) (hm : P.follows .mixedOrders = true) (hl : addEdge l n p = l') (hE : edgeB l n p = true)
    (hQ : ∀ c a v t w, Q (.panic c) (a.put (some t) v) w → Q (.panic c) a w) (hB : Region.lexTailB .any l'.toArray n = true)
    (hC : Up E C) (hT : ∀ i R, T i = some R → ∀ v, Up E (R v)) (hw : C w.drew)
    (h : wpM P .any l'.toArray E C T (fun a' F' => ∀ w', C w' → (∀ k, F' k w') → wpList P l'.toArray Q (l'.drop n) a' w') (l'.take n) 0 a noFacts) : (Code.region id l.toArray true).wp P Q a w := by
  simp only [Region.lexTailB, Bool.and_eq_true, decide_eq_true_eq] at hB
  obtain ⟨⟨⟨⟨hsel, hn⟩, hs⟩, hc⟩, hlex⟩ := hB
  have hn' : n < l'.length := by simpa using hn
  have htl : (l'.take n).length = n := by simp; omega
  have hdl : (l'.drop n).length = l'.toArray.size - n := by simp
  have inv0 : HeadInv .any l'.toArray n (Array.replicate l'.toArray.size false) :=
    ⟨by simp, fun j oj _ hl => (by rw [getD_replicate_false] at hl; cases hl), fun t _ ht => getD_in (by simpa using ht) (getD_replicate_false _ _)⟩
  have H := wpAnyM_lex (md := .any) (g := l'.toArray.size - n) hC hT hsel (fun listed inv i hi hun t ht => tail_waits hs hc hn inv _ i rfl hi hun t ht) (l'.take n) 0 _ a noFacts (fun j hj => by
    have hj' : j < n := by rw [htl] at hj; exact hj
    simp [hj']) (by simpa using htl) (fun _ _ _ _ _ => trivial) ⟨_, hw, fun _ => trivial⟩ (fun _ _ _ => trivial) inv0 (by rw [htl]; exact hlex) h
  refine wp_region_any hm ?_
  have := wpAny_of_M (Q' := Q) (g := l'.toArray.size - n) hC hT (fun listed a' F' w' hL hw' hF' => by
    have := wpAny_of_seq (md := .any) (Q' := Q) (l'.drop n) n listed a' w' (fun j => by simp [List.getElem?_drop]) (by rw [hdl]; exact hL.1) (hL.2 w' hw' hF')
    rwa [hdl] at this) _ _ _ _ _ (fun _ _ _ _ _ => trivial) hw (fun _ => trivial) H
  rw [htl, show n + (l'.toArray.size - n) = l'.toArray.size by omega] at this
  have hll : l'.toArray.size = l.toArray.size := by rw [← hl]; simp [addEdge_len]
  rw [hll] at this
  refine wpAny_edge (n := n) (p := p) hE hQ _ _ _ _ (by simp) ?_
  rw [hl]
  exact this
end
end Go.Proofs.Ytgnjhaomlbkgcaa
