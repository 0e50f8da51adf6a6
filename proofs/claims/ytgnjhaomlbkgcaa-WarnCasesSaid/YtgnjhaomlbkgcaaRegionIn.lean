/- The region theorem within a round of a range over a function (the wide fence). -/
import Derived.Test.YtgnjhaomlbkgcaaRegion2
import Derived.RangeFuncNested
import Derived.RangeFuncBound
import Derived.RangeFuncCalls
import Derived.RangeFuncLeaves
import Derived.OwnWalkIn
import Derived.TacticsInMore
import Derived.LoopNIn
import Derived.LoopIn
import Derived.Shelf.AbstractIn
namespace Go.Proofs.Ytgnjhaomlbkgcaa
open Go Go.RowKit
set_option linter.unusedVariables false
set_option linter.unusedSimpArgs false

section
variable {l₀ n : Nat} {P : Program} {ops : Array Oper} {md : Region.Mode} {E : World → World → Prop} {C : World → Prop} {T : Nat → Option (Value → World → Prop)}

theorem in_of_calls {l₀ n : Nat} {P : Program} {f : FuncId} {args : Array Value} {w : World} {R : Ending → World → Prop} (h : Calls P f args w R) : CallsIn (Fence.wide.inRound l₀) n P f args w R :=
  CallsIn.inRound l₀ (callsIn_wide.2 h)

theorem wpIn_of_opens {o : Oper} {a : Act} {D : World → Prop} {R : Value → World → Prop} {K' : Act → World → Prop} {Q' : Exit → Act → World → Prop} {w : World} (hnd : ∀ c, o.op ≠ .defer c) (h : opens P E o a D R) (hw : D w)
    (hK : ∀ v w', E w w' → R v w' → K' (a.put o.dst v) w') : o.wpIn (Fence.wide.inRound l₀) n P a w K' Q' := by
  refine ⟨fun _ _ => trivial, ?_⟩
  have := h w hw
  rw [show (Fence.wide.inRound l₀).round = some l₀ from rfl, Oper.semAt_some l₀ a.eval o hnd]
  generalize (execOp a.eval o).run P w = r at *
  cases r with
  | ok m w' =>
    cases m <;> simp only [opensUpon] at this <;> simp only [Oper.uponIn]
    case value u => exact hK _ _ this.1 this.2
    case skip => exact hK _ _ this.1 this.2
    case enter f args => exact ⟨fun h => (by cases h), in_of_calls (this.mono fun e w'' ⟨v, he, h1, h2⟩ => by subst he; exact hK _ _ h1 h2)⟩
  | halt x w' => simp only [opensUpon] at this

theorem wpAnyIn_of_M {m g : Nat} {L : Array Bool → Act → Facts → Prop} {Q' : Exit → Act → World → Prop} (hnd : ∀ (i : Nat) (o : Oper), ops[i]? = some o → ∀ c, o.op ≠ .defer c) (hC : Up E C) (hT : ∀ i R, T i = some R → ∀ v, Up E (R v))
    (hL : ∀ listed a F w, L listed a F → C w → (∀ k, F k w) → wpAnyIn (Fence.wide.inRound l₀) n P md ops Q' g listed a w) :
    ∀ (f : Nat) (listed : Array Bool) (a : Act) (F : Facts) (w : World), (∀ k, Up E (F k)) → C w → (∀ k, F k w) → wpAnyM P md ops E C T m L f listed a F → wpAnyIn (Fence.wide.inRound l₀) n P md ops Q' (f + g) listed a w
  | 0, listed, a, F, w, _, hw, hFw, h => by rw [Nat.zero_add]; exact hL _ _ _ _ h hw hFw
  | f + 1, listed, a, F, w, hF, hw, hFw, h => by
    rw [show f + 1 + g = (f + g) + 1 by omega]
    refine ⟨fun h0 => absurd h0 h.1, fun i hi => ?_⟩
    obtain ⟨_, hop⟩ := h.2 i hi
    unfold opM at hop
    unfold wpOpIn
    split
    · rename_i ho
      simp only [ho] at hop
      exact wpAnyIn_of_M hnd hC hT hL f _ _ _ _ hF hw hFw hop
    · rename_i o ho
      simp only [ho] at hop
      split
      · rename_i hwt
        simp only [hwt, if_true] at hop
        have hD : depC md C o F w := ⟨hw, fun e _ _ => hFw e.on⟩
        have hDu := depC_up (md := md) (o := o) hC hF
        generalize ht : T i = t at hop
        cases t with
        | none =>
          obtain ⟨u, h1, h2⟩ := hop
          refine wpIn_of_opens (hnd i o ho) h1.opens hD fun v w' he hv => ?_
          subst hv
          refine wpAnyIn_of_M hnd hC hT hL f _ _ _ _ (set_up hF hDu) (hC _ _ hw he) (fun k => ?_) h2
          unfold Facts.set
          split
          · exact hDu _ _ hD he
          · exact hF k _ _ (hFw k) he
        | some R =>
          obtain ⟨h1, h2⟩ := hop
          refine wpIn_of_opens (hnd i o ho) h1 hD fun v w' he hv => ?_
          have hFw' : ∀ k, F k w' := fun k => hF k _ _ (hFw k) he
          refine wpAnyIn_of_M hnd hC hT hL f _ _ _ _ (set_up hF fun x y hx hxy => ⟨hDu _ _ hx.1 hxy, hT i R ht v _ _ hx.2 hxy⟩) (hC _ _ hw he) (fun k => ?_) (h2 v ⟨w', hC _ _ hw he, hFw', hv⟩)
          unfold Facts.set
          split
          · exact ⟨hDu _ _ hD he, hv⟩
          · exact hFw' k
      · rename_i hwt
        simp only [hwt] at hop
        exact ⟨fun _ _ => trivial, wpAnyIn_of_M hnd hC hT hL f _ _ _ _ hF hw hFw hop⟩

theorem wpAnyIn_of_seq {F : Fence} {Q' : Exit → Act → World → Prop} : ∀ (l : List Oper) (k : Nat) (listed : Array Bool) (a : Act) (w : World), (∀ j, l[j]? = ops[k + j]?) →
    Region.seqB md ops l.length k listed = true → wpListIn F n P ops Q' l a w → wpAnyIn F n P md ops Q' l.length listed a w
  | [], _, _, _, _, _, hB, h => ⟨by simpa [Region.seqB] using hB, h⟩
  | o :: l, k, listed, a, w, hl, hB, h => by
    have h0 : ops[k]? = some o := by simpa using (hl 0).symm
    simp only [List.length_cons, Region.seqB, Bool.and_eq_true, decide_eq_true_eq] at hB
    refine ⟨fun h1 => (by rw [hB.1] at h1; cases h1), fun i hi => ?_⟩
    rw [hB.1] at hi
    have hik : i = k := by simpa using hi
    subst hik
    have hw : wpOpIn F n P ops Q' i (wpListIn F n P ops Q' l) a w := by unfold wpOpIn; simp only [h0]; exact h
    exact wpOpIn_mono (fun a' w' h' => wpAnyIn_of_seq l (i + 1) _ a' w' (fun j => by have := hl (j + 1); simpa [Nat.add_assoc, Nat.add_comm 1 j] using this) hB.2 h') hw

def noDefer (ops : Array Oper) : Bool := ops.all fun o => match o.op with | .defer _ => false | _ => true
theorem noDefer_spec (h : noDefer ops = true) : ∀ (i : Nat) (o : Oper), ops[i]? = some o → ∀ c, o.op ≠ .defer c := by
  intro i o ho c heq
  have := Array.all_eq_true_iff_forall_mem.1 h o (Array.mem_of_getElem? ho)
  simp [heq] at this

theorem wpIn_region_opens_tail {id : Nat} {Q : Exit → Act → World → Prop} {a : Act} {w : World} {l : List Oper} (E : World → World → Prop) (C : World → Prop) (T : Nat → Option (Value → World → Prop)) (m : Nat) (hm : P.follows .mixedOrders = true) (hB : (noDefer l.toArray && Region.lexTailB .any l.toArray m) = true)
    (hC : Up E C) (hT : ∀ i R, T i = some R → ∀ v, Up E (R v)) (hw : C w.drew)
    (h : wpM P .any l.toArray E C T (fun a' F' => ∀ w', C w' → (∀ k, F' k w') → wpListIn (Fence.wide.inRound l₀) n P l.toArray Q (l.drop m) a' w') (l.take m) 0 a noFacts) : (Code.region id l.toArray true).wpIn (Fence.wide.inRound l₀) n P Q a w := by
  simp only [Region.lexTailB, Bool.and_eq_true, decide_eq_true_eq] at hB
  obtain ⟨hnd, ⟨⟨⟨hsel, hn⟩, hs⟩, hc⟩, hlex⟩ := hB
  have hn' : m < l.length := by simpa using hn
  have htl : (l.take m).length = m := by simp; omega
  have hdl : (l.drop m).length = l.toArray.size - m := by simp
  have inv0 : HeadInv .any l.toArray m (Array.replicate l.toArray.size false) :=
    ⟨by simp, fun j oj _ hl => (by rw [getD_replicate_false] at hl; cases hl), fun t _ ht => getD_in (by simpa using ht) (getD_replicate_false _ _)⟩
  have H := wpAnyM_lex (md := .any) (g := l.toArray.size - m) hC hT hsel (fun listed inv i hi hun t ht => tail_waits hs hc hn inv _ i rfl hi hun t ht) (l.take m) 0 _ a noFacts (fun j hj => by
    have hj' : j < m := by rw [htl] at hj; exact hj
    simp [hj']) (by simpa using htl) (fun _ _ _ _ _ => trivial) ⟨_, hw, fun _ => trivial⟩ (fun _ _ _ => trivial) inv0 (by rw [htl]; exact hlex) h
  refine wpIn_region_any hm ?_
  have := wpAnyIn_of_M (l₀ := l₀) (n := n) (Q' := Q) (g := l.toArray.size - m) (noDefer_spec hnd) hC hT (fun listed a' F' w' hL hw' hF' => by
    have := wpAnyIn_of_seq (n := n) (P := P) (F := Fence.wide.inRound l₀) (md := .any) (Q' := Q) (l.drop m) m listed a' w' (fun j => by simp [List.getElem?_drop]) (by rw [hdl]; exact hL.1) (hL.2 w' hw' hF')
    rwa [hdl] at this) _ _ _ _ _ (fun _ _ _ _ _ => trivial) hw (fun _ => trivial) H
  rw [htl, show m + (l.toArray.size - m) = l.toArray.size by omega] at this
  exact this

theorem wpIn_region_opens {id : Nat} {Q : Exit → Act → World → Prop} {a : Act} {w : World} {l : List Oper} (E : World → World → Prop) (C : World → Prop) (T : Nat → Option (Value → World → Prop)) (hm : P.follows .mixedOrders = true) (hB : (noDefer l.toArray && lexAllB .any l.toArray) = true)
    (hC : Up E C) (hT : ∀ i R, T i = some R → ∀ v, Up E (R v)) (hw : C w.drew)
    (h : wpM P .any l.toArray E C T (fun a' F' => ∀ w', C w' → (∀ k, F' k w') → Q .normal a' w') l 0 a noFacts) : (Code.region id l.toArray true).wpIn (Fence.wide.inRound l₀) n P Q a w := by
  simp only [lexAllB, Bool.and_eq_true] at hB
  obtain ⟨hnd, hsel, hlex⟩ := hB
  have hs : l.toArray.size = l.length := by simp
  have inv0 : HeadInv .any l.toArray l.length (Array.replicate l.toArray.size false) :=
    ⟨by simp, fun j oj _ hl => (by rw [getD_replicate_false] at hl; cases hl), fun t ht ht' => by rw [hs] at ht'; omega⟩
  have H := wpAnyM_lex (md := .any) (g := 0) hC hT hsel (fun listed inv i hi hun t ht hr => by
    obtain ⟨_, o, ho, _⟩ := mem_ready.1 hr
    have := (Array.getElem?_eq_some_iff.1 ho).1
    rw [hs] at this; omega) l 0 _ a noFacts (fun j hj => by simp) (by simp) (fun _ _ _ _ _ => trivial) ⟨_, hw, fun _ => trivial⟩ (fun _ _ _ => trivial) inv0 (by rw [← hs]; exact hlex) h
  refine wpIn_region_any hm ?_
  have := wpAnyIn_of_M (l₀ := l₀) (n := n) (Q' := Q) (g := 0) (noDefer_spec hnd) hC hT (fun listed a' F' w' hL hw' hF' => ⟨by simpa [Region.seqB] using hL.1, hL.2 w' hw' hF'⟩) _ _ _ _ _ (fun _ _ _ _ _ => trivial) hw (fun _ => trivial) H
  rw [Nat.add_zero] at this
  rw [hs]
  exact this
end
end Go.Proofs.Ytgnjhaomlbkgcaa
