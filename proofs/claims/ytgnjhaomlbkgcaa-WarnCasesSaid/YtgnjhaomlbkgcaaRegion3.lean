/- A step of a drawn region whose facts are forgotten: what is known then grows by one word a step, and not twofold. The walk stands in a structure, so that no tactic opens it while it looks at the goal. No program stands here. -/
import Derived.Test.YtgnjhaomlbkgcaaRegion2
import Derived.Test.YtgnjhaomlbkgcaaRegionIn
namespace Go.Proofs.Ytgnjhaomlbkgcaa
open Go
set_option linter.unusedVariables false
set_option linter.unusedSimpArgs false

section
variable {P : Program} {ops : Array Oper} {md : Region.Mode} {E : World → World → Prop} {C : World → Prop} {T : Nat → Option (Value → World → Prop)}
theorem wpM_val0 {Q : Act → Facts → Prop} {k : Nat} {a : Act} {F : Facts} {o : Oper} {rest : List Oper} (u : Value) (ht : T k = none) (hw : Region.wanted o (yielded ops a.tmps) = true) (hE : ∀ w, E w w)
    (hr : ∀ w, depC md C o F w → (execOp a.eval o).run P w = .ok (.value u) w) (h : ∀ φ : World → Prop, wpM P md ops E C T Q rest (k + 1) (a.put o.dst u) (F.set k φ)) : wpM P md ops E C T Q (o :: rest) k a F :=
  wpM_val u ht hw hE hr (h _)

/-- The walk of a region, closed up. -/
structure WM (P : Program) (md : Region.Mode) (ops : Array Oper) (E : World → World → Prop) (C : World → Prop) (T : Nat → Option (Value → World → Prop)) (Q : Act → Facts → Prop) (l : List Oper) (k : Nat) (a : Act) (F : Facts) : Prop where
  out : wpM P md ops E C T Q l k a F
theorem wM_nil {Q : Act → Facts → Prop} {k : Nat} {a : Act} {F : Facts} (h : Q a F) : WM P md ops E C T Q [] k a F := ⟨h⟩
theorem wM_val {Q : Act → Facts → Prop} {k : Nat} {a : Act} {F : Facts} {o : Oper} {rest : List Oper} (u : Value) (ht : T k = none) (hw : Region.wanted o (yielded ops a.tmps) = true) (hE : ∀ w, E w w)
    (hr : ∀ w, depC md C o F w → (execOp a.eval o).run P w = .ok (.value u) w) (h : ∀ φ : World → Prop, WM P md ops E C T Q rest (k + 1) (a.put o.dst u) (F.set k φ)) : WM P md ops E C T Q (o :: rest) k a F :=
  ⟨wpM_val u ht hw hE hr (h _).out⟩
theorem wM_skip {Q : Act → Facts → Prop} {k : Nat} {a : Act} {F : Facts} {o : Oper} {rest : List Oper} (hw : Region.wanted o (yielded ops a.tmps) = false)
    (h : WM P md ops E C T Q rest (k + 1) (a.put o.dst undef) F) : WM P md ops E C T Q (o :: rest) k a F := ⟨wpM_skip hw h.out⟩
theorem wM_op {Q : Act → Facts → Prop} {k : Nat} {a : Act} {F : Facts} {o : Oper} {rest : List Oper} (R : Value → World → Prop) (ht : T k = some R) (hw : Region.wanted o (yielded ops a.tmps) = true)
    (ho : opens P E o a (depC md C o F) R)
    (h : ∀ v, (∃ w, C w ∧ (∀ k, F k w) ∧ R v w) → WM P md ops E C T Q rest (k + 1) (a.put o.dst v) (F.set k (fun w => depC md C o F w ∧ R v w))) : WM P md ops E C T Q (o :: rest) k a F :=
  ⟨wpM_op R ht hw ho fun v hv => (h v hv).out⟩
theorem wp_region_shut {id : Nat} {Q : Exit → Act → World → Prop} {a : Act} {w : World} {l : List Oper} (E : World → World → Prop) (C : World → Prop) (T : Nat → Option (Value → World → Prop)) (hm : P.follows .mixedOrders = true) (hB : lexAllB .any l.toArray = true)
    (hC : Up E C) (hT : ∀ i R, T i = some R → ∀ v, Up E (R v)) (hw : C w.drew)
    (h : WM P .any l.toArray E C T (fun a' F' => ∀ w', C w' → (∀ k, F' k w') → Q .normal a' w') l 0 a noFacts) : (Code.region id l.toArray true).wp P Q a w := wp_region_opens E C T hm hB hC hT hw h.out
theorem wp_region_shut_tail {id : Nat} {Q : Exit → Act → World → Prop} {a : Act} {w : World} {l : List Oper} (E : World → World → Prop) (C : World → Prop) (T : Nat → Option (Value → World → Prop)) (n : Nat) (hm : P.follows .mixedOrders = true) (hB : Region.lexTailB .any l.toArray n = true)
    (hC : Up E C) (hT : ∀ i R, T i = some R → ∀ v, Up E (R v)) (hw : C w.drew)
    (h : WM P .any l.toArray E C T (fun a' F' => ∀ w', C w' → (∀ k, F' k w') → wpList P l.toArray Q (l.drop n) a' w') (l.take n) 0 a noFacts) : (Code.region id l.toArray true).wp P Q a w := wp_region_opens_tail E C T n hm hB hC hT hw h.out
theorem wpIn_region_shut {l₀ n : Nat} {id : Nat} {Q : Exit → Act → World → Prop} {a : Act} {w : World} {l : List Oper} (E : World → World → Prop) (C : World → Prop) (T : Nat → Option (Value → World → Prop)) (hm : P.follows .mixedOrders = true) (hB : (noDefer l.toArray && lexAllB .any l.toArray) = true)
    (hC : Up E C) (hT : ∀ i R, T i = some R → ∀ v, Up E (R v)) (hw : C w.drew)
    (h : WM P .any l.toArray E C T (fun a' F' => ∀ w', C w' → (∀ k, F' k w') → Q .normal a' w') l 0 a noFacts) : (Code.region id l.toArray true).wpIn (Fence.wide.inRound l₀) n P Q a w := wpIn_region_opens E C T hm hB hC hT hw h.out
theorem wpIn_region_shut_tail {l₀ n : Nat} {id : Nat} {Q : Exit → Act → World → Prop} {a : Act} {w : World} {l : List Oper} (E : World → World → Prop) (C : World → Prop) (T : Nat → Option (Value → World → Prop)) (m : Nat) (hm : P.follows .mixedOrders = true) (hB : (noDefer l.toArray && Region.lexTailB .any l.toArray m) = true)
    (hC : Up E C) (hT : ∀ i R, T i = some R → ∀ v, Up E (R v)) (hw : C w.drew)
    (h : WM P .any l.toArray E C T (fun a' F' => ∀ w', C w' → (∀ k, F' k w') → wpListIn (Fence.wide.inRound l₀) n P l.toArray Q (l.drop m) a' w') (l.take m) 0 a noFacts) : (Code.region id l.toArray true).wpIn (Fence.wide.inRound l₀) n P Q a w := wpIn_region_opens_tail E C T m hm hB hC hT hw h.out
end
end Go.Proofs.Ytgnjhaomlbkgcaa
