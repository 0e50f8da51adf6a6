/- A region that draws its order and whose operations only let the world go on along a preorder E (new blocks; one block of a kind known): ONE walk of the text's order serves every order. Values that hang on the order (addresses of new blocks) are told by words of their own (T). After the kit's own theorem on quiet regions; no program stands here. -/
import Derived.StillTail
import Derived.BigQuiet
namespace Go.Proofs.Ytgnjhaomlbkgcaa
open Go
set_option linter.unusedVariables false
set_option linter.unusedSimpArgs false

section
variable {P : Program} {ops : Array Oper} {md : Region.Mode} {E : World → World → Prop} {C : World → Prop} {T : Nat → Option (Value → World → Prop)}

/-- What an operation, carried out in w, may come to: a value of which R holds, in a world that E leads to. -/
def opensUpon (P : Program) (E : World → World → Prop) (w : World) (R : Value → World → Prop) : Result Next → Prop
  | .ok (.value u) w' => E w w' ∧ R u w'
  | .ok .skip w' => E w w' ∧ R undef w'
  | .ok (.enter f args) w' => Calls P f args w' (fun e w'' => ∃ v, e = .returned v ∧ E w w'' ∧ R v w'')
  | _ => False
def opens (P : Program) (E : World → World → Prop) (o : Oper) (a : Act) (D : World → Prop) (R : Value → World → Prop) : Prop :=
  ∀ w, D w → opensUpon P E w R ((execOp a.eval o).run P w)

theorem opens_mono {o : Oper} {a : Act} {D D' : World → Prop} {R R' : Value → World → Prop} (h : opens P E o a D R) (hD : ∀ w, D' w → D w) (hR : ∀ v w, R v w → R' v w) : opens P E o a D' R' := by
  intro w hw
  have := h w (hD w hw)
  generalize (execOp a.eval o).run P w = r at *
  cases r with
  | ok n w' =>
    cases n <;> simp only [opensUpon] at this ⊢
    case value => exact ⟨this.1, hR _ _ this.2⟩
    case skip => exact ⟨this.1, hR _ _ this.2⟩
    case enter f args => exact this.mono fun e w'' ⟨v, he, h1, h2⟩ => ⟨v, he, h1, hR _ _ h2⟩
  | halt x w' => simp only [opensUpon] at this

/-- There is such a value. -/
theorem opens_some {o : Oper} {a : Act} {D : World → Prop} {R : Value → World → Prop} (h : opens P E o a D R) {w : World} (hw : D w) : ∃ v w', E w w' ∧ R v w' := by
  have := h w hw
  generalize (execOp a.eval o).run P w = r at *
  cases r with
  | ok n w' =>
    cases n <;> simp only [opensUpon] at this
    case value u => exact ⟨u, w', this⟩
    case skip => exact ⟨undef, w', this⟩
    case enter f args =>
      obtain ⟨e, w'', _, ⟨v, _, h1, h2⟩, _⟩ := this []
      exact ⟨v, w'', h1, h2⟩
  | halt x w' => simp only [opensUpon] at this

theorem wp_of_opens {o : Oper} {a : Act} {D : World → Prop} {R : Value → World → Prop} {K' : Act → World → Prop} {Q' : Exit → Act → World → Prop} {w : World} (h : opens P E o a D R) (hw : D w)
    (hK : ∀ v w', E w w' → R v w' → K' (a.put o.dst v) w') : o.wp P a w K' Q' := by
  have := h w hw
  unfold Oper.wp
  generalize (execOp a.eval o).run P w = r at *
  cases r with
  | ok n w' =>
    cases n <;> simp only [opensUpon] at this <;> simp only [Oper.upon]
    case value u => exact hK _ _ this.1 this.2
    case skip => exact hK _ _ this.1 this.2
    case enter f args => exact this.mono fun e w'' ⟨v, he, h1, h2⟩ => by subst he; exact hK _ _ h1 h2
  | halt x w' => simp only [opensUpon] at this

/-- No call, and one value in every world of the class. -/
def still1 (P : Program) (E : World → World → Prop) (o : Oper) (a : Act) (D : World → Prop) (u : Value) : Prop :=
  ∀ w, D w → match (execOp a.eval o).run P w with
    | .ok (.value u') w' => E w w' ∧ u' = u
    | .ok .skip w' => E w w' ∧ u = undef
    | _ => False
theorem still1.opens {o : Oper} {a : Act} {D : World → Prop} {u : Value} (h : still1 P E o a D u) : opens P E o a D (fun v _ => v = u) := by
  intro w hw
  have := h w hw
  generalize (execOp a.eval o).run P w = r at *
  cases r with
  | ok n w' =>
    cases n <;> simp only [opensUpon] at this ⊢
    case value => exact this
    case skip => exact ⟨this.1, this.2.symm⟩
  | halt x w' => exact this.elim
theorem still1.uniq {o : Oper} {a : Act} {D : World → Prop} {u u' : Value} (h : still1 P E o a D u) (h' : still1 P E o a D u') {w : World} (hw : D w) : u = u' := by
  have h1 := h w hw
  have h2 := h' w hw
  generalize (execOp a.eval o).run P w = r at *
  cases r with
  | ok n w' =>
    cases n <;> simp only at h1 h2
    case value => exact h1.2.symm.trans h2.2
    case skip => exact h1.2.trans h2.2.symm
  | halt x w' => exact h1.elim

/-- What is known of the worlds behind each operation. -/
abbrev Facts := Nat → World → Prop
def Facts.set (F : Facts) (i : Nat) (φ : World → Prop) : Facts := fun k => if k = i then φ else F k
theorem Facts.set_same (F : Facts) (i : Nat) (φ : World → Prop) : F.set i φ i = φ := by simp [Facts.set]
theorem Facts.set_ne (F : Facts) {i k : Nat} (φ : World → Prop) (h : k ≠ i) : F.set i φ k = F k := by simp [Facts.set, h]
theorem Facts.set_comm (F : Facts) {i j : Nat} (φ ψ : World → Prop) (h : i ≠ j) : (F.set i φ).set j ψ = (F.set j ψ).set i φ := by
  funext k
  unfold Facts.set
  by_cases h1 : k = j <;> by_cases h2 : k = i
  · exact absurd (h2.symm.trans h1) h
  · simp [h1]
    intro h3
    exact absurd h3.symm h
  · simp [h2, h]
  · simp [h1, h2]

/-- What an operation may lean on: the base, and what is known behind the operations that it waits for. -/
def depC (md : Region.Mode) (C : World → Prop) (o : Oper) (F : Facts) : World → Prop := fun w => C w ∧ ∀ e ∈ o.after, Region.binds md e = true → F e.on w
theorem depC.get {o : Oper} {F : Facts} {w : World} (h : depC md C o F w) (n : Nat) (hn : (o.after.any fun e => Region.binds md e && e.on == n) = true) : F n w := by
  obtain ⟨e, he, hb⟩ := Array.any_eq_true'.1 hn
  simp only [Bool.and_eq_true, beq_iff_eq] at hb
  have := h.2 e he hb.1
  rwa [hb.2] at this
theorem depC_set {o : Oper} {F : Facts} {i : Nat} {φ : World → Prop} (h : ∀ e ∈ o.after, Region.binds md e = true → e.on ≠ i) : depC md C o (F.set i φ) = depC md C o F := by
  funext w
  refine propext ⟨fun ⟨h1, h2⟩ => ⟨h1, fun e he hb => ?_⟩, fun ⟨h1, h2⟩ => ⟨h1, fun e he hb => ?_⟩⟩
  · have := h2 e he hb; rwa [Facts.set_ne F φ (h e he hb)] at this
  · rw [Facts.set_ne F φ (h e he hb)]; exact h2 e he hb

def Up (E : World → World → Prop) (φ : World → Prop) : Prop := ∀ w w', φ w → E w w' → φ w'
theorem depC_up {o : Oper} {F : Facts} (hC : Up E C) (hF : ∀ k, Up E (F k)) : Up E (depC md C o F) := fun w w' h he => ⟨hC w w' h.1 he, fun e h1 h2 => hF e.on w w' (h.2 e h1 h2) he⟩
theorem set_up {F : Facts} {i : Nat} {φ : World → Prop} (hF : ∀ k, Up E (F k)) (hφ : Up E φ) : ∀ k, Up E (F.set i φ k) := by
  intro k
  unfold Facts.set
  split
  · exact hφ
  · exact hF k

/-- One operation that is carried out. -/
def actM (P : Program) (md : Region.Mode) (E : World → World → Prop) (C : World → Prop) (t : Option (Value → World → Prop)) (o : Oper) (a : Act) (F : Facts) (K : Value → (World → Prop) → Prop) : Prop :=
  match t with
  | none => ∃ u, still1 P E o a (depC md C o F) u ∧ K u (depC md C o F)
  | some R => opens P E o a (depC md C o F) R ∧ ∀ v, (∃ w, C w ∧ (∀ k, F k w) ∧ R v w) → K v (fun w => depC md C o F w ∧ R v w)

/-- Operation number i comes up. -/
def opM (P : Program) (md : Region.Mode) (ops : Array Oper) (E : World → World → Prop) (C : World → Prop) (T : Nat → Option (Value → World → Prop)) (i : Nat) (K : Act → Facts → Prop) (a : Act) (F : Facts) : Prop :=
  match ops[i]? with
  | none => K a F
  | some o => if Region.wanted o (yielded ops a.tmps) then actM P md E C (T i) o a F fun v φ => K (a.put o.dst v) (F.set i φ) else K (a.put o.dst undef) F

/-- The walk of the text's order. -/
def wpM (P : Program) (md : Region.Mode) (ops : Array Oper) (E : World → World → Prop) (C : World → Prop) (T : Nat → Option (Value → World → Prop)) (Q : Act → Facts → Prop) : List Oper → Nat → Act → Facts → Prop
  | [], _, a, F => Q a F
  | o :: rest, k, a, F => if Region.wanted o (yielded ops a.tmps) then actM P md E C (T k) o a F fun v φ => wpM P md ops E C T Q rest (k + 1) (a.put o.dst v) (F.set k φ) else wpM P md ops E C T Q rest (k + 1) (a.put o.dst undef) F

/-- Whatever order is picked, as long as operations below n are left. -/
def wpAnyM (P : Program) (md : Region.Mode) (ops : Array Oper) (E : World → World → Prop) (C : World → Prop) (T : Nat → Option (Value → World → Prop)) (n : Nat) (L : Array Bool → Act → Facts → Prop) : Nat → Array Bool → Act → Facts → Prop
  | 0, listed, a, F => L listed a F
  | f + 1, listed, a, F => Region.ready md ops listed ≠ [] ∧ ∀ i ∈ Region.ready md ops listed, i < n ∧ opM P md ops E C T i (wpAnyM P md ops E C T n L f (listed.setIfInBounds i true)) a F

theorem actM_mono {t : Option (Value → World → Prop)} {o : Oper} {a : Act} {F : Facts} {K K' : Value → (World → Prop) → Prop} (h : actM P md E C t o a F K)
    (hK : ∀ v φ, K v φ → K' v φ) : actM P md E C t o a F K' := by
  cases t with
  | none => obtain ⟨u, h1, h2⟩ := h; exact ⟨u, h1, hK _ _ h2⟩
  | some R => exact ⟨h.1, fun v hv => hK _ _ (h.2 v hv)⟩

theorem wpAny_of_M {n g : Nat} {L : Array Bool → Act → Facts → Prop} {Q' : Exit → Act → World → Prop} (hC : Up E C) (hT : ∀ i R, T i = some R → ∀ v, Up E (R v))
    (hL : ∀ listed a F w, L listed a F → C w → (∀ k, F k w) → wpAny P md ops Q' g listed a w) :
    ∀ (f : Nat) (listed : Array Bool) (a : Act) (F : Facts) (w : World), (∀ k, Up E (F k)) → C w → (∀ k, F k w) → wpAnyM P md ops E C T n L f listed a F → wpAny P md ops Q' (f + g) listed a w
  | 0, listed, a, F, w, _, hw, hFw, h => by rw [Nat.zero_add]; exact hL _ _ _ _ h hw hFw
  | f + 1, listed, a, F, w, hF, hw, hFw, h => by
    rw [show f + 1 + g = (f + g) + 1 by omega]
    refine ⟨fun h0 => absurd h0 h.1, fun i hi => ?_⟩
    obtain ⟨_, hop⟩ := h.2 i hi
    unfold opM at hop
    unfold wpOp
    split
    · rename_i ho
      simp only [ho] at hop
      exact wpAny_of_M hC hT hL f _ _ _ _ hF hw hFw hop
    · rename_i o ho
      simp only [ho] at hop
      split
      · rename_i hwt
        simp only [hwt, if_true] at hop
        refine .inl ?_
        have hD : depC md C o F w := ⟨hw, fun e _ _ => hFw e.on⟩
        have hDu := depC_up (md := md) (o := o) hC hF
        generalize ht : T i = t at hop
        cases t with
        | none =>
          obtain ⟨u, h1, h2⟩ := hop
          refine wp_of_opens h1.opens hD fun v w' he hv => ?_
          subst hv
          refine wpAny_of_M hC hT hL f _ _ _ _ (set_up hF hDu) (hC _ _ hw he) (fun k => ?_) h2
          unfold Facts.set
          split
          · exact hDu _ _ hD he
          · exact hF k _ _ (hFw k) he
        | some R =>
          obtain ⟨h1, h2⟩ := hop
          refine wp_of_opens h1 hD fun v w' he hv => ?_
          have hFw' : ∀ k, F k w' := fun k => hF k _ _ (hFw k) he
          refine wpAny_of_M hC hT hL f _ _ _ _ (set_up hF fun x y hx hxy => ⟨hDu _ _ hx.1 hxy, hT i R ht v _ _ hx.2 hxy⟩) (hC _ _ hw he) (fun k => ?_) (h2 v ⟨w', hC _ _ hw he, hFw', hv⟩)
          unfold Facts.set
          split
          · exact ⟨hDu _ _ hD he, hv⟩
          · exact hFw' k
      · rename_i hwt
        simp only [hwt] at hop
        exact wpAny_of_M hC hT hL f _ _ _ _ hF hw hFw hop

theorem opM_put {i j : Nat} {oi oj : Oper} {v : Value} {φ : World → Prop} (hj : ops[j]? = some oj) (hij : i ≠ j) (hap : oi.apart ops oj = true) (hno : ∀ e ∈ oj.after, Region.binds md e = true → e.on ≠ i)
    (hsj : ∀ cs b, oj.op ≠ .select cs b) {K : Act → Facts → Prop} {a : Act} {F : Facts} (h : opM P md ops E C T j K (a.put oi.dst v) (F.set i φ)) :
    (Region.wanted oj (yielded ops a.tmps) = true ∧ match T j with
      | none => ∃ u, still1 P E oj a (depC md C oj F) u ∧ K ((a.put oj.dst u).put oi.dst v) ((F.set j (depC md C oj F)).set i φ)
      | some R => opens P E oj a (depC md C oj F) R ∧ ∀ u, (∃ w, C w ∧ (∀ k, (F.set i φ) k w) ∧ R u w) → K ((a.put oj.dst u).put oi.dst v) ((F.set j (fun w => depC md C oj F w ∧ R u w)).set i φ)) ∨
    (Region.wanted oj (yielded ops a.tmps) = false ∧ K ((a.put oj.dst undef).put oi.dst v) (F.set i φ)) := by
  obtain ⟨h1, h2, h3⟩ := Oper.apart_spec hap
  have hex : execOp (a.put oi.dst v).eval oj = execOp a.eval oj := execOp_put oj hsj a oi.dst v h1
  unfold opM at h
  simp only [hj] at h
  rw [wanted_put oj a oi.dst v h1] at h
  by_cases hw : Region.wanted oj (yielded ops a.tmps) = true
  · refine .inl ⟨hw, ?_⟩
    simp only [hw, if_true] at h
    unfold actM at h
    rw [depC_set hno] at h
    split at h
    · obtain ⟨u, hu, hk⟩ := h
      refine ⟨u, ?_, ?_⟩
      · unfold still1 at hu ⊢; rwa [hex] at hu
      · rw [← Act.put_comm a v u h2, Facts.set_comm F _ _ (Ne.symm hij)]; exact hk
    · obtain ⟨hu, hk⟩ := h
      refine ⟨?_, fun u hw' => ?_⟩
      · unfold opens at hu ⊢; rwa [hex] at hu
      · rw [← Act.put_comm a v u h2, Facts.set_comm F _ _ (Ne.symm hij)]; exact hk u hw'
  · refine .inr ⟨by simpa using hw, ?_⟩
    simp only [hw] at h
    rw [← Act.put_comm a v undef h2]; exact h

/-- **An operation that may come up now may be taken first.** -/
theorem wpAnyM_first {n i : Nat} {I : Array Bool → Prop} (hI : ∀ listed i, I listed → i ∈ Region.ready md ops listed → i < n → I (listed.setIfInBounds i true)) {oi : Oper} {L : Array Bool → Act → Facts → Prop} (hC : Up E C) (hT : ∀ i R, T i = some R → ∀ v, Up E (R v)) (hi : ops[i]? = some oi)
    (hsel : ∀ (j : Nat) (o : Oper) cs b, ops[j]? = some o → o.op ≠ .select cs b)
    (hbd : ∀ listed, I listed → ∀ i, i < n → listed.getD i true = false → ∀ t, n ≤ t → t ∉ Region.ready md ops listed) (hin : i < n)
    (hdone : ∀ listed a F, L listed a F → ∀ j ∈ Region.ready md ops listed, n ≤ j) :
    ∀ (f : Nat) (listed : Array Bool) (a : Act) (F : Facts), (∀ k, Up E (F k)) → (∃ w, C w ∧ ∀ k, F k w) → (∀ k, listed.getD k true = false → ∀ w, F k w) → I listed →
      (∀ j oj, ops[j]? = some oj → j ≠ i → listed.getD j true = false → (∀ e ∈ oj.after, Region.binds md e = true → e.on ≠ i) → oi.apart ops oj = true) →
      i ∈ Region.ready md ops listed → opM P md ops E C T i (wpAnyM P md ops E C T n L f (listed.setIfInBounds i true)) a F → wpAnyM P md ops E C T n L (f + 1) listed a F := by
  intro f
  induction f with
  | zero =>
    intro listed a F hF hex _ inv hfree hr H
    have hun := (mem_ready.1 hr).1
    refine ⟨fun h => (by rw [h] at hr; cases hr), fun j hj => ?_⟩
    have hjn : j < n := by
      rcases Nat.lt_or_ge j n with h | h
      · exact h
      · exact absurd hj (hbd _ inv i hin hun j h)
    refine ⟨hjn, ?_⟩
    by_cases hji : j = i
    · subst hji; exact H
    · -- a value of i's shows that nothing below n is left
      exfalso
      have : ∃ a' F', wpAnyM P md ops E C T n L 0 (listed.setIfInBounds i true) a' F' := by
        unfold opM at H
        simp only [hi] at H
        split at H
        · obtain ⟨w, hw, hFw⟩ := hex
          unfold actM at H
          split at H
          · obtain ⟨u, _, h2⟩ := H; exact ⟨_, _, h2⟩
          · obtain ⟨h1, h2⟩ := H
            obtain ⟨v, w', he, hv⟩ := opens_some h1 (w := w) ⟨hw, fun e _ _ => hFw e.on⟩
            exact ⟨_, _, h2 v ⟨w', hC _ _ hw he, fun k => hF k _ _ (hFw k) he, hv⟩⟩
        · exact ⟨_, _, H⟩
      obtain ⟨a', F', hL⟩ := this
      have := hdone _ _ _ hL j (ready_mono hj hji)
      omega
  | succ f ih =>
    intro listed a F hF hex hF0 inv hfree hr H
    have hun := (mem_ready.1 hr).1
    refine ⟨fun h => (by rw [h] at hr; cases hr), fun j hj => ?_⟩
    have hjn : j < n := by
      rcases Nat.lt_or_ge j n with h | h
      · exact h
      · exact absurd hj (hbd _ inv i hin hun j h)
    refine ⟨hjn, ?_⟩
    by_cases hji : j = i
    · subst hji; exact H
    · obtain ⟨hjun, oj, hoj, hall⟩ := mem_ready.1 hj
      have hnot : ∀ e ∈ oj.after, Region.binds md e = true → e.on ≠ i := fun e he hb heq => by
        have h1 := hall e he hb
        rw [heq] at h1
        rw [getD_both hun] at h1
        cases h1
      have hap := hfree j oj hoj hji hjun hnot
      obtain ⟨p1, p2, p3⟩ := Oper.apart_spec hap
      have hsj := fun cs b => hsel j oj cs b hoj
      have hsi := fun cs b => hsel i oi cs b hi
      have inv' := hI _ _ inv hj hjn
      have hfree' : ∀ k ok, ops[k]? = some ok → k ≠ i → (listed.setIfInBounds j true).getD k true = false →
          (∀ e ∈ ok.after, Region.binds md e = true → e.on ≠ i) → oi.apart ops ok = true := fun k ok hk hki hun2 hno => by
        refine hfree k ok hk hki ?_ hno
        by_cases hjk : j = k
        · subst hjk; exact hjun
        · rw [getD_set_ne true hjk] at hun2; exact hun2
      have hri := ready_mono hr (Ne.symm hji)
      have hDu := depC_up (md := md) (o := oj) hC hF
      have hIu := depC_up (md := md) (o := oi) hC hF
      -- what i is at a state in which j has been carried out already
      have hii : ∀ u, execOp (a.put oj.dst u).eval oi = execOp a.eval oi := fun u => execOp_put oi hsi a oj.dst u p3
      have hwi : ∀ u, Region.wanted oi (yielded ops (a.put oj.dst u).tmps) = Region.wanted oi (yielded ops a.tmps) := fun u => wanted_put oi a oj.dst u p3
      -- i does not wait for j: j has not been listed
      have hnoi : ∀ e ∈ oi.after, Region.binds md e = true → e.on ≠ j := fun e he hb heq => by
        obtain ⟨_, o', ho', hall'⟩ := mem_ready.1 hr
        have : o' = oi := Option.some.inj (ho'.symm.trans hi)
        subst this
        have h1 := hall' e he hb
        rw [heq, getD_both hjun] at h1
        cases h1
      have hcomm : (listed.setIfInBounds i true).setIfInBounds j true = (listed.setIfInBounds j true).setIfInBounds i true := Array.setIfInBounds_comm _ _ (Ne.symm hji)
      -- what is not yet listed is not yet known
      have hjlt : j < listed.size := by
        rcases Nat.lt_or_ge j listed.size with h | h
        · exact h
        · simp [Array.getElem?_eq_none h] at hjun
      have hF0' : ∀ φ k, (listed.setIfInBounds j true).getD k true = false → ∀ w, F.set j φ k w := fun φ k hk w => by
        have hkj : j ≠ k := by
          rintro rfl
          simp [hjlt] at hk
        rw [getD_set_ne true hkj] at hk
        rw [Facts.set_ne F φ (Ne.symm hkj)]
        exact hF0 k hk w
      have hF0u : ∀ k, (listed.setIfInBounds j true).getD k true = false → ∀ w, F k w := fun k hk w => by
        have hkj : j ≠ k := by
          rintro rfl
          simp [hjlt] at hk
        rw [getD_set_ne true hkj] at hk
        exact hF0 k hk w
      have unset : ∀ φ w, (∀ k, F.set j φ k w) → ∀ k, F k w := fun φ w h k => by
        by_cases hkj : k = j
        · subst hkj; exact hF0 _ hjun w
        · have := h k; rwa [Facts.set_ne F φ hkj] at this
      have joint : ∀ (φ : World → Prop) w, (∀ k, F k w) → φ w → ∀ k, F.set j φ k w := fun φ w h hφ k => by
        unfold Facts.set
        split
        · exact hφ
        · exact h k
      have jointi : ∀ (φ : World → Prop) w, (∀ k, F k w) → φ w → ∀ k, F.set i φ k w := fun φ w h hφ k => by
        unfold Facts.set
        split
        · exact hφ
        · exact h k
      -- what H says at a value (and a fact) of i's
      have atv : ∀ v φ, wpAnyM P md ops E C T n L (f + 1) (listed.setIfInBounds i true) (a.put oi.dst v) (F.set i φ) →
          opM P md ops E C T j (fun a' F' => wpAnyM P md ops E C T n L f ((listed.setIfInBounds j true).setIfInBounds i true) a' F') (a.put oi.dst v) (F.set i φ) := fun v φ h => by
        have := (h.2 j (ready_mono hj hji)).2
        rw [hcomm] at this
        exact this
      unfold opM
      simp only [hoj]
      unfold opM at H
      simp only [hi] at H
      by_cases hwti : Region.wanted oi (yielded ops a.tmps) = true
      · simp only [hwti, if_true] at H
        cases hti : T i with
        | none =>
          rw [hti] at H
          obtain ⟨u, hu, hk⟩ := H
          have hui : ∀ x, still1 P E oi (a.put oj.dst x) (depC md C oi F) u := fun x => by unfold still1 at hu ⊢; rw [hii]; exact hu
          have hj1 := opM_put (φ := depC md C oi F) hoj (Ne.symm hji) hap hnot hsj (atv u _ hk)
          rcases hj1 with ⟨hwj, hj1⟩ | ⟨hwj, hj1⟩
          · simp only [hwj, if_true]
            unfold actM
            cases htj : T j with
            | none =>
              rw [htj] at hj1
              obtain ⟨uj, h1, h2⟩ := hj1
              refine ⟨uj, h1, ih _ _ _ (set_up hF hDu) ?_ (hF0' _) inv' hfree' hri ?_⟩
              · obtain ⟨w, hw, hFw⟩ := hex
                exact ⟨w, hw, joint _ w hFw ⟨hw, fun e _ _ => hFw e.on⟩⟩
              · unfold opM
                simp only [hi, hwi, hwti, if_true, hti]
                refine ⟨u, ?_, ?_⟩
                · rw [depC_set hnoi]; exact hui _
                · rw [depC_set hnoi]; exact h2
            | some Rj =>
              rw [htj] at hj1
              obtain ⟨h1, h2⟩ := hj1
              refine ⟨h1, fun uj hex' => ih _ _ _ (set_up hF fun x y hx hxy => ⟨hDu _ _ hx.1 hxy, hT j Rj htj uj _ _ hx.2 hxy⟩) ?_ (hF0' _) inv' hfree' hri ?_⟩
              · obtain ⟨w, hw, hFw, hRw⟩ := hex'
                exact ⟨w, hw, joint _ w hFw ⟨⟨hw, fun e _ _ => hFw e.on⟩, hRw⟩⟩
              · unfold opM
                simp only [hi, hwi, hwti, if_true, hti]
                refine ⟨u, ?_, ?_⟩
                · rw [depC_set hnoi]; exact hui _
                · rw [depC_set hnoi]
                  refine h2 uj ?_
                  obtain ⟨w, hw, hFw, hRw⟩ := hex'
                  exact ⟨w, hw, jointi _ w hFw ⟨hw, fun e _ _ => hFw e.on⟩, hRw⟩
          · simp only [hwj]
            refine ih _ _ _ hF hex hF0u inv' hfree' hri ?_
            unfold opM
            simp only [hi, hwi, hwti, if_true, hti]
            exact ⟨u, hui _, hj1⟩
        | some Ri =>
          rw [hti] at H
          obtain ⟨hu, hk⟩ := H
          have hui : ∀ x, opens P E oi (a.put oj.dst x) (depC md C oi F) Ri := fun x => by unfold opens at hu ⊢; rw [hii]; exact hu
          obtain ⟨w0, hw0, hFw0⟩ := hex
          obtain ⟨v0, w0', he0, hv0⟩ := opens_some hu (w := w0) ⟨hw0, fun e _ _ => hFw0 e.on⟩
          have hx0 : ∃ w, C w ∧ (∀ k, F k w) ∧ Ri v0 w := ⟨w0', hC _ _ hw0 he0, fun k => hF k _ _ (hFw0 k) he0, hv0⟩
          have all := fun v hv => opM_put (φ := fun w => depC md C oi F w ∧ Ri v w) hoj (Ne.symm hji) hap hnot hsj (atv v _ (hk v hv))
          have h0 := all v0 hx0
          rcases h0 with ⟨hwj, h0⟩ | ⟨hwj, _⟩
          · simp only [hwj, if_true]
            unfold actM
            cases htj : T j with
            | none =>
              rw [htj] at h0
              obtain ⟨uj, h1, _⟩ := h0
              refine ⟨uj, h1, ih _ _ _ (set_up hF hDu) ⟨w0, hw0, joint _ w0 hFw0 ⟨hw0, fun e _ _ => hFw0 e.on⟩⟩ (hF0' _) inv' hfree' hri ?_⟩
              unfold opM
              simp only [hi, hwi, hwti, if_true, hti]
              refine ⟨by rw [depC_set hnoi]; exact hui _, fun v hv => ?_⟩
              rw [depC_set hnoi]
              obtain ⟨w, hw, hFw, hRw⟩ := hv
              have hFw' := unset _ w hFw
              rcases all v ⟨w, hw, hFw', hRw⟩ with ⟨_, h⟩ | ⟨hwj', _⟩
              · rw [htj] at h
                obtain ⟨uj', h1', h2'⟩ := h
                have : uj' = uj := h1'.uniq h1 (w := w) ⟨hw, fun e _ _ => hFw' e.on⟩
                subst this
                exact h2'
              · rw [hwj] at hwj'; cases hwj'
            | some Rj =>
              rw [htj] at h0
              obtain ⟨h1, _⟩ := h0
              refine ⟨h1, fun uj hex' => ?_⟩
              obtain ⟨w1, hw1, hFw1, hRw1⟩ := hex'
              refine ih _ _ _ (set_up hF fun x y hx hxy => ⟨hDu _ _ hx.1 hxy, hT j Rj htj uj _ _ hx.2 hxy⟩) ⟨w1, hw1, joint _ w1 hFw1 ⟨⟨hw1, fun e _ _ => hFw1 e.on⟩, hRw1⟩⟩ (hF0' _) inv' hfree' hri ?_
              unfold opM
              simp only [hi, hwi, hwti, if_true, hti]
              refine ⟨by rw [depC_set hnoi]; exact hui _, fun v hv => ?_⟩
              rw [depC_set hnoi]
              obtain ⟨w, hw, hFw, hRw⟩ := hv
              have hFw' := unset _ w hFw
              have hjw : depC md C oj F w ∧ Rj uj w := by have := hFw j; rwa [Facts.set_same] at this
              rcases all v ⟨w, hw, hFw', hRw⟩ with ⟨_, h⟩ | ⟨hwj', _⟩
              · rw [htj] at h
                exact h.2 uj ⟨w, hw, jointi _ w hFw' ⟨⟨hw, fun e _ _ => hFw' e.on⟩, hRw⟩, hjw.2⟩
              · rw [hwj] at hwj'; cases hwj'
          · simp only [hwj]
            refine ih _ _ _ hF ⟨w0, hw0, hFw0⟩ hF0u inv' hfree' hri ?_
            unfold opM
            simp only [hi, hwi, hwti, if_true, hti]
            refine ⟨hui _, fun v hv => ?_⟩
            rcases all v hv with ⟨hwj', _⟩ | ⟨_, h⟩
            · rw [hwj] at hwj'; cases hwj'
            · exact h
      · simp only [hwti] at H
        have hj1 := (H.2 j (ready_mono hj hji)).2
        rw [hcomm] at hj1
        have hj2 : opM P md ops E C T j (fun a' F' => wpAnyM P md ops E C T n L f ((listed.setIfInBounds j true).setIfInBounds i true) a' F') (a.put oi.dst undef) (F.set i (F i)) := by
          have : F.set i (F i) = F := by funext k; unfold Facts.set; split <;> simp_all
          rw [this]; exact hj1
        have hj3 := opM_put (φ := F i) hoj (Ne.symm hji) hap hnot hsj hj2
        have hset : ∀ φ, (F.set j φ).set i (F i) = F.set j φ := fun φ => by
          funext k; unfold Facts.set
          by_cases h1 : k = i
          · subst h1; simp; intro h2; exact absurd h2.symm hji
          · simp [h1]
        have hset0 : F.set i (F i) = F := by funext k; unfold Facts.set; split <;> simp_all
        rcases hj3 with ⟨hwj, h0⟩ | ⟨hwj, h0⟩
        · simp only [hwj, if_true]
          unfold actM
          cases htj : T j with
          | none =>
            rw [htj] at h0
            obtain ⟨uj, h1, h2⟩ := h0
            rw [hset] at h2
            refine ⟨uj, h1, ih _ _ _ (set_up hF hDu) ?_ (hF0' _) inv' hfree' hri ?_⟩
            · obtain ⟨w, hw, hFw⟩ := hex
              exact ⟨w, hw, joint _ w hFw ⟨hw, fun e _ _ => hFw e.on⟩⟩
            · unfold opM
              simp only [hi, hwi, hwti]
              exact h2
          | some Rj =>
            rw [htj] at h0
            obtain ⟨h1, h2⟩ := h0
            refine ⟨h1, fun uj hex' => ?_⟩
            obtain ⟨w1, hw1, hFw1, hRw1⟩ := hex'
            refine ih _ _ _ (set_up hF fun x y hx hxy => ⟨hDu _ _ hx.1 hxy, hT j Rj htj uj _ _ hx.2 hxy⟩) ⟨w1, hw1, joint _ w1 hFw1 ⟨⟨hw1, fun e _ _ => hFw1 e.on⟩, hRw1⟩⟩ (hF0' _) inv' hfree' hri ?_
            unfold opM
            simp only [hi, hwi, hwti]
            have := h2 uj ⟨w1, hw1, by rw [hset0]; exact hFw1, hRw1⟩
            rw [hset] at this
            exact this
        · simp only [hwj]
          rw [hset0] at h0
          refine ih _ _ _ hF hex hF0u inv' hfree' hri ?_
          unfold opM
          simp only [hi, hwi, hwti]
          exact h0

end
end Go.Proofs.Ytgnjhaomlbkgcaa
