/- The region theorem in the forms that a walk uses: the whole region, or all but a tail in a forced order. -/
import Derived.Test.YtgnjhaomlbkgcaaRegion
import Derived.Test.YtgnjhaomlbkgcaaBase
namespace Go.Proofs.Ytgnjhaomlbkgcaa
open Go Go.RowKit
set_option linter.unusedVariables false
set_option linter.unusedSimpArgs false

section
variable {P : Program} {ops : Array Oper} {md : Region.Mode} {E : World → World → Prop} {C : World → Prop} {T : Nat → Option (Value → World → Prop)}

def noFacts : Facts := fun _ _ => True

theorem opM_of_wpM {o : Oper} {l : List Oper} {k : Nat} {a : Act} {F : Facts} {Q : Act → Facts → Prop} (h0 : ops[k]? = some o) (h : wpM P md ops E C T Q (o :: l) k a F) :
    opM P md ops E C T k (fun a' F' => wpM P md ops E C T Q l (k + 1) a' F') a F := by
  unfold opM
  simp only [h0]
  exact h

/-- Behind opM, whatever follows. -/
theorem opM_mono {i : Nat} {a : Act} {F : Facts} {K K' : Act → Facts → Prop} (hC : Up E C) (hT : ∀ i R, T i = some R → ∀ v, Up E (R v)) (hF : ∀ k, Up E (F k)) (hex : ∃ w, C w ∧ ∀ k, F k w)
    (h : opM P md ops E C T i K a F)
    (hK : ∀ a' F', (∀ k, Up E (F' k)) → (∃ w, C w ∧ ∀ k, F' k w) → (∀ k, k ≠ i → F' k = F k) → K a' F' → K' a' F') : opM P md ops E C T i K' a F := by
  unfold opM at *
  split
  · rename_i ho
    simp only [ho] at h
    exact hK _ _ hF hex (fun _ _ => rfl) h
  · rename_i o ho
    simp only [ho] at h
    have hD := depC_up (md := md) (o := o) hC hF
    split
    · rename_i hw
      simp only [hw, if_true] at h
      unfold actM at *
      cases ht : T i with
      | none =>
        rw [ht] at h
        obtain ⟨u, h1, h2⟩ := h
        refine ⟨u, h1, hK _ _ (set_up hF hD) ?_ (fun k hk => Facts.set_ne F _ hk) h2⟩
        obtain ⟨w, hw, hFw⟩ := hex
        exact ⟨w, hw, fun k => by unfold Facts.set; split; exact ⟨hw, fun e _ _ => hFw e.on⟩; exact hFw k⟩
      | some R =>
        rw [ht] at h
        refine ⟨h.1, fun v hv => hK _ _ (set_up hF fun x y hx hxy => ⟨hD _ _ hx.1 hxy, hT i R ht v _ _ hx.2 hxy⟩) ?_ (fun k hk => Facts.set_ne F _ hk) (h.2 v hv)⟩
        obtain ⟨w, hw, hFw, hR⟩ := hv
        exact ⟨w, hw, fun k => by unfold Facts.set; split; exact ⟨⟨hw, fun e _ _ => hFw e.on⟩, hR⟩; exact hFw k⟩
    · rename_i hw
      simp only [hw] at h
      exact hK _ _ hF hex (fun _ _ => rfl) h

/-- lexHead with another test at its end. -/
def lexHeadF (md : Region.Mode) (ops : Array Oper) (fin : Array Bool → Bool) : Nat → Nat → Array Bool → Bool
  | 0, _, listed => fin listed
  | f + 1, k, listed => (Region.ready md ops listed).contains k && Region.free md ops listed k && lexHeadF md ops fin f (k + 1) (listed.setIfInBounds k true)
theorem lexHeadF_of {g : Nat} : ∀ (f k n : Nat) (listed : Array Bool), k + f = n → Region.lexHead md ops g f k listed = true → lexHeadF md ops (fun l => Region.seqB md ops g n l) f k listed = true
  | 0, k, n, listed, hk, h => by obtain rfl : k = n := by omega
                                 exact h
  | f + 1, k, n, listed, hk, h => by
    simp only [Region.lexHead, Bool.and_eq_true] at h
    simp only [lexHeadF, Bool.and_eq_true]
    exact ⟨h.1, lexHeadF_of f (k + 1) n _ (by omega) h.2⟩

theorem wpAnyM_lexI {n : Nat} {I : Array Bool → Prop} (hI : ∀ listed i, I listed → i ∈ Region.ready md ops listed → i < n → I (listed.setIfInBounds i true)) {fin : Array Bool → Bool} (hfin : ∀ listed, fin listed = true → ∀ j ∈ Region.ready md ops listed, n ≤ j)
    {Lq : Act → Facts → Prop} (hC : Up E C) (hT : ∀ i R, T i = some R → ∀ v, Up E (R v)) (hsel : Region.noSelect ops = true)
    (hbd : ∀ listed, I listed → ∀ i, i < n → listed.getD i true = false → ∀ t, n ≤ t → t ∉ Region.ready md ops listed) :
    ∀ (l : List Oper) (k : Nat) (listed : Array Bool) (a : Act) (F : Facts), (∀ j, j < l.length → l[j]? = ops[k + j]?) → k + l.length = n → (∀ k, Up E (F k)) → (∃ w, C w ∧ ∀ k, F k w) →
    (∀ k, listed.getD k true = false → ∀ w, F k w) → I listed → lexHeadF md ops fin l.length k listed = true → wpM P md ops E C T Lq l k a F →
    wpAnyM P md ops E C T n (fun listed' a' F' => fin listed' = true ∧ Lq a' F') l.length listed a F
  | [], k, listed, a, F, _, hk, _, _, _, _, hB, h => ⟨hB, h⟩
  | o :: l, k, listed, a, F, hl, hk, hF, hex, hF0, inv, hB, h => by
    have h0 : ops[k]? = some o := by simpa using (hl 0 (by simp)).symm
    simp only [List.length_cons, lexHeadF, Bool.and_eq_true] at hB
    obtain ⟨⟨hr, hf⟩, hB'⟩ := hB
    have hkn : k < n := by simp only [List.length_cons] at hk; omega
    have hr' : k ∈ Region.ready md ops listed := by simpa using hr
    have hklt : k < listed.size := by
      rcases Nat.lt_or_ge k listed.size with h | h
      · exact h
      · have := (mem_ready.1 hr').1; simp [Array.getElem?_eq_none h] at this
    refine wpAnyM_first hI hC hT h0 (Region.noSelect_spec hsel) hbd hkn (fun listed' a' F' hL => hfin _ hL.1) l.length listed a F hF hex hF0 inv (Region.free_spec h0 hf) hr' ?_
    refine opM_mono hC hT hF hex (opM_of_wpM h0 h) fun a' F' hF' hex' hne hw => ?_
    refine wpAnyM_lexI hI hfin hC hT hsel hbd l (k + 1) _ a' F' (fun j hj => by have := hl (j + 1) (by simp; omega); simpa [Nat.add_assoc, Nat.add_comm 1 j] using this) (by simp only [List.length_cons] at hk; omega) hF' hex' ?_ (hI _ _ inv hr' hkn) hB' hw
    intro i hi w
    have hki : k ≠ i := by
      rintro rfl
      simp [hklt] at hi
    rw [getD_set_ne true hki] at hi
    rw [hne i (Ne.symm hki)]
    exact hF0 i hi w
theorem wpAnyM_lex {n g : Nat} {Lq : Act → Facts → Prop} (hC : Up E C) (hT : ∀ i R, T i = some R → ∀ v, Up E (R v)) (hsel : Region.noSelect ops = true)
    (hbd : ∀ listed, HeadInv md ops n listed → ∀ i, i < n → listed.getD i true = false → ∀ t, n ≤ t → t ∉ Region.ready md ops listed)
    (l : List Oper) (k : Nat) (listed : Array Bool) (a : Act) (F : Facts) (hl : ∀ j, j < l.length → l[j]? = ops[k + j]?) (hk : k + l.length = n) (hF : ∀ k, Up E (F k)) (hex : ∃ w, C w ∧ ∀ k, F k w)
    (hF0 : ∀ k, listed.getD k true = false → ∀ w, F k w) (inv : HeadInv md ops n listed) (hB : Region.lexHead md ops g l.length k listed = true) (h : wpM P md ops E C T Lq l k a F) :
    wpAnyM P md ops E C T n (fun listed' a' F' => Region.seqB md ops g n listed' = true ∧ Lq a' F') l.length listed a F :=
  wpAnyM_lexI (fun _ _ inv hi hin => HeadInv.set inv hi hin) (fun _ h => seqB_ready h) hC hT hsel hbd l k listed a F hl hk hF hex hF0 inv (lexHeadF_of _ _ _ _ hk hB) h

/-- All operations but a tail in a forced order. -/
theorem wp_region_opens_tail {id : Nat} {Q : Exit → Act → World → Prop} {a : Act} {w : World} {l : List Oper} (E : World → World → Prop) (C : World → Prop) (T : Nat → Option (Value → World → Prop)) (n : Nat) (hm : P.follows .mixedOrders = true) (hB : Region.lexTailB .any l.toArray n = true)
    (hC : Up E C) (hT : ∀ i R, T i = some R → ∀ v, Up E (R v)) (hw : C w.drew)
    (h : wpM P .any l.toArray E C T (fun a' F' => ∀ w', C w' → (∀ k, F' k w') → wpList P l.toArray Q (l.drop n) a' w') (l.take n) 0 a noFacts) : (Code.region id l.toArray true).wp P Q a w := by
  simp only [Region.lexTailB, Bool.and_eq_true, decide_eq_true_eq] at hB
  obtain ⟨⟨⟨⟨hsel, hn⟩, hs⟩, hc⟩, hlex⟩ := hB
  have hn' : n < l.length := by simpa using hn
  have htl : (l.take n).length = n := by simp; omega
  have hdl : (l.drop n).length = l.toArray.size - n := by simp
  have inv0 : HeadInv .any l.toArray n (Array.replicate l.toArray.size false) :=
    ⟨by simp, fun j oj _ hl => (by rw [getD_replicate_false] at hl; cases hl), fun t _ ht => getD_in (by simpa using ht) (getD_replicate_false _ _)⟩
  have H := wpAnyM_lex (md := .any) (g := l.toArray.size - n) hC hT hsel (fun listed inv i hi hun t ht => tail_waits hs hc hn inv _ i rfl hi hun t ht) (l.take n) 0 _ a noFacts (fun j hj => by
    have hj' : j < n := by rw [htl] at hj; exact hj
    simp [hj']) (by simpa using htl) (fun _ _ _ _ _ => trivial) ⟨_, hw, fun _ => trivial⟩ (fun _ _ _ => trivial) inv0 (by rw [htl]; exact hlex) h
  refine wp_region_any hm ?_
  have := wpAny_of_M (Q' := Q) (g := l.toArray.size - n) hC hT (fun listed a' F' w' hL hw' hF' => by
    have := wpAny_of_seq (md := .any) (Q' := Q) (l.drop n) n listed a' w' (fun j => by simp [List.getElem?_drop]) (by rw [hdl]; exact hL.1) (hL.2 w' hw' hF')
    rwa [hdl] at this) _ _ _ _ _ (fun _ _ _ _ _ => trivial) hw (fun _ => trivial) H
  rw [htl, show n + (l.toArray.size - n) = l.toArray.size by omega] at this
  exact this

def lexAllB (md : Region.Mode) (ops : Array Oper) : Bool := Region.noSelect ops && Region.lexHead md ops 0 ops.size 0 (Array.replicate ops.size false)

/-- The whole region. -/
theorem wp_region_opens {id : Nat} {Q : Exit → Act → World → Prop} {a : Act} {w : World} {l : List Oper} (E : World → World → Prop) (C : World → Prop) (T : Nat → Option (Value → World → Prop)) (hm : P.follows .mixedOrders = true) (hB : lexAllB .any l.toArray = true)
    (hC : Up E C) (hT : ∀ i R, T i = some R → ∀ v, Up E (R v)) (hw : C w.drew)
    (h : wpM P .any l.toArray E C T (fun a' F' => ∀ w', C w' → (∀ k, F' k w') → Q .normal a' w') l 0 a noFacts) : (Code.region id l.toArray true).wp P Q a w := by
  simp only [lexAllB, Bool.and_eq_true] at hB
  obtain ⟨hsel, hlex⟩ := hB
  have hs : l.toArray.size = l.length := by simp
  have inv0 : HeadInv .any l.toArray l.length (Array.replicate l.toArray.size false) :=
    ⟨by simp, fun j oj _ hl => (by rw [getD_replicate_false] at hl; cases hl), fun t ht ht' => by rw [hs] at ht'; omega⟩
  have H := wpAnyM_lex (md := .any) (g := 0) hC hT hsel (fun listed inv i hi hun t ht hr => by
    obtain ⟨_, o, ho, _⟩ := mem_ready.1 hr
    have := (Array.getElem?_eq_some_iff.1 ho).1
    rw [hs] at this; omega) l 0 _ a noFacts (fun j hj => by simp) (by simp) (fun _ _ _ _ _ => trivial) ⟨_, hw, fun _ => trivial⟩ (fun _ _ _ => trivial) inv0 (by rw [← hs]; exact hlex) h
  refine wp_region_any hm ?_
  have := wpAny_of_M (Q' := Q) (g := 0) hC hT (fun listed a' F' w' hL hw' hF' => ⟨by simpa [Region.seqB] using hL.1, hL.2 w' hw' hF'⟩) _ _ _ _ _ (fun _ _ _ _ _ => trivial) hw (fun _ => trivial) H
  rw [Nat.add_zero] at this
  rw [hs]
  exact this

/-! ### Steps -/
theorem wpM_nil {Q : Act → Facts → Prop} {k : Nat} {a : Act} {F : Facts} (h : Q a F) : wpM P md ops E C T Q [] k a F := h
/-- A value that hangs on nothing but what is known. -/
theorem wpM_val {Q : Act → Facts → Prop} {k : Nat} {a : Act} {F : Facts} {o : Oper} {rest : List Oper} (u : Value) (ht : T k = none) (hw : Region.wanted o (yielded ops a.tmps) = true) (hE : ∀ w, E w w)
    (hr : ∀ w, depC md C o F w → (execOp a.eval o).run P w = .ok (.value u) w) (h : wpM P md ops E C T Q rest (k + 1) (a.put o.dst u) (F.set k (depC md C o F))) : wpM P md ops E C T Q (o :: rest) k a F := by
  show if _ then _ else _
  rw [if_pos hw, ht]
  exact ⟨u, fun w hD => by rw [hr w hD]; exact ⟨hE w, rfl⟩, h⟩
theorem wpM_skip {Q : Act → Facts → Prop} {k : Nat} {a : Act} {F : Facts} {o : Oper} {rest : List Oper} (hw : Region.wanted o (yielded ops a.tmps) = false)
    (h : wpM P md ops E C T Q rest (k + 1) (a.put o.dst undef) F) : wpM P md ops E C T Q (o :: rest) k a F := by
  show if _ then _ else _
  rw [if_neg (by rw [hw]; exact Bool.false_ne_true)]
  exact h
/-- A value that is told by the word T has for it. -/
theorem wpM_op {Q : Act → Facts → Prop} {k : Nat} {a : Act} {F : Facts} {o : Oper} {rest : List Oper} (R : Value → World → Prop) (ht : T k = some R) (hw : Region.wanted o (yielded ops a.tmps) = true)
    (ho : opens P E o a (depC md C o F) R)
    (h : ∀ v, (∃ w, C w ∧ (∀ k, F k w) ∧ R v w) → wpM P md ops E C T Q rest (k + 1) (a.put o.dst v) (F.set k (fun w => depC md C o F w ∧ R v w))) : wpM P md ops E C T Q (o :: rest) k a F := by
  show if _ then _ else _
  rw [if_pos hw, ht]
  exact ⟨ho, h⟩
/-- A call of a function. -/
theorem opens_call {o : Oper} {a : Act} {D : World → Prop} {R : Value → World → Prop} (f : FuncId) (args : Array Value) (hr : ∀ w, D w → (execOp a.eval o).run P w = .ok (.enter f args) w)
    (hc : ∀ w, D w → Calls P f args w fun e w' => ∃ v, e = .returned v ∧ E w w' ∧ R v w') : opens P E o a D R := by
  intro w hw
  rw [hr w hw]
  exact hc w hw
/-- Another operation that makes memory. -/
theorem opens_val {o : Oper} {a : Act} {D : World → Prop} {R : Value → World → Prop} (hr : ∀ w, D w → ∃ v w', (execOp a.eval o).run P w = .ok (.value v) w' ∧ E w w' ∧ R v w') : opens P E o a D R := by
  intro w hw
  obtain ⟨v, w', h1, h2, h3⟩ := hr w hw
  rw [h1]
  exact ⟨h2, h3⟩
end
end Go.Proofs.Ytgnjhaomlbkgcaa
