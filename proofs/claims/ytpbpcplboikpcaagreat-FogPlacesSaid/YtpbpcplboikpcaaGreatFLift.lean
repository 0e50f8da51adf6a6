/- How a fog.Fog, and the slices that the laws of layer 5 take besides, read when they come in. -/
import Derived.Test.YtpbpcplboikpcaaGreatRows
import Derived.Test.YtpbpcplboikpcaaGreatG1
import Derived.Deep.Slices
import Derived.Deep.Fields
import Derived.Lib.SmallJoins
import Derived.WalkKit
import Derived.ProofKit
import Derived.OpenShut
import Derived.ShutString
import Derived.ChangeOld
import Derived.Below
namespace Go.Proofs.YtpbpcplboikpcaaGreat
open Go Go.RowKit Go.Deep Go.ChangeShapes Go.WideShapes Go.Joins
set_option linter.unusedVariables false
set_option linter.unusedSimpArgs false
set_option maxRecDepth 100000

theorem lOwn : ownKnob Tryz.prog.godebug = none := by kernel_rfl
theorem lLaid : laidOutB Tryz.prog = true := by kernel_rfl
theorem rd_of_cells {W : World} {a : Addr} {xs : List Value} (h : ∀ j u, xs[j]? = some u → W.cell? (a.add j) = some u) : Rd W (some a) xs := by
  cases xs with
  | nil => exact .inl rfl
  | cons u r =>
    obtain ⟨b, off, spot⟩ := a
    have hc := h 0 u rfl
    have hspot : spot = none := by simpa [Addr.add] using World.cell?_spot hc
    subst hspot
    refine .inr ⟨b, off, rfl, fun j v hv => ?_⟩
    have h2 := h j v hv
    rw [Addr.add_lit] at h2
    exact h2
theorem read_lay {α : Type} (F : Lay α) {W : World} {a : Addr} : ∀ (len : Nat), (∀ i, i < len → ∃ x : α, ∀ r u, (F.cells x)[r]? = some u → W.cell? (a.add (i * F.k + r)) = some u) →
    ∃ l : List α, l.length = len ∧ ∀ j u, (F.rows l)[j]? = some u → W.cell? (a.add j) = some u
  | 0, _ => ⟨[], rfl, fun j u h => by simp [Lay.rows] at h⟩
  | len + 1, h => by
    obtain ⟨l, hl, hc⟩ := read_lay F len (fun i hi => h i (by omega))
    obtain ⟨x, hx⟩ := h len (by omega)
    refine ⟨l ++ [x], by simp [hl], fun j u hu => ?_⟩
    rw [F.rows_app] at hu
    by_cases hj : j < (F.rows l).length
    · rw [List.getElem?_append_left hj] at hu
      exact hc j u hu
    · rw [List.getElem?_append_right (by omega)] at hu
      have e : (F.rows l).length = len * F.k := by rw [F.rows_len, hl]
      rw [e, F.rows_single] at hu
      rw [e] at hj
      obtain ⟨r, rfl⟩ : ∃ r, j = len * F.k + r := ⟨j - len * F.k, by omega⟩
      rw [Nat.add_sub_cancel_left] at hu
      exact hx r u hu

section
variable {H : Type} {enc : TypeId × Value → H} {W : World}
theorem cells_int : Tryz.prog.cellsOf 3 = 1 := by kernel_rfl
theorem cells_bool : Tryz.prog.cellsOf 4 = 1 := by kernel_rfl
/-- A slice of such elements. -/
theorem trod_rows {α : Type} (F : Lay α) {t e : TypeId} (ht : Tryz.prog.underlying t = some (.slice e)) (hC : Tryz.prog.cellsOf e = F.k)
    (hE : ∀ (n : Nat) (cs : List Value) (y : DataW H × List MemPlace), cs.length = F.k → DataW.trod enc Tryz.prog W 0 (fun _ => true) true n e cs = some y → ∃ x : α, cs = F.cells x)
    {n : Nat} {v : Value} {y : DataW H × List MemPlace} (h : DataW.trod enc Tryz.prog W 0 (fun _ => true) true n t [v] = some y) :
    ∃ (A : Option Addr) (c : Nat) (l : List α), v = .slice A l.length c ∧ Rows F W A l ∧ l.length ≤ c ∧ l.length ≤ 9223372036854775807 := by
  rcases open_slice ht h with ⟨hcs, _⟩ | ⟨a, len, cap, m, n', D, Pl, hcs, hb, hl, hm, hmm, hx, hi⟩
  · cases hcs
    exact ⟨none, 0, [], rfl, .inl rfl, by simp, by simp⟩
  · cases hcs
    have hm2 : m = cap := by simpa using hmm
    simp only [maxLen] at hm
    obtain ⟨l, hll, hc⟩ := read_lay F (W := W) (a := a) len (fun i hi' => by
      obtain ⟨cs', hc, htr⟩ := hi i (by omega)
      rw [hC] at hc
      obtain ⟨_, hcl, hat⟩ := World.cells?_some hc
      obtain ⟨x, rfl⟩ := hE _ _ _ hcl htr
      refine ⟨x, fun r u hu => ?_⟩
      have hr : r < F.k := by rw [← hcl]; exact (List.getElem?_eq_some_iff.1 hu).1
      have g := hat r hr
      rw [add_add, hu] at g
      exact g)
    subst hll
    exact ⟨_, cap, l, rfl, rd_of_cells hc, hl, by omega⟩
theorem elem_int_in (n : Nat) (cs : List Value) (y : DataW H × List MemPlace) (hl : cs.length = layIn.k) (h : DataW.trod enc Tryz.prog W 0 (fun _ => true) true n 3 cs = some y) : ∃ x : Int, cs = layIn.cells x := by
  obtain ⟨a, rfl, _⟩ := DataW.trod_int Tryz.underlying3 h
  exact ⟨a, rfl⟩
theorem elem_pair_in (n : Nat) (cs : List Value) (y : DataW H × List MemPlace) (hl : cs.length = layPr.k) (h : DataW.trod enc Tryz.prog W 0 (fun _ => true) true n 68 cs = some y) : ∃ x : Int × Int, cs = layPr.cells x := by
  match cs, hl with
  | [u0, u1], _ =>
    obtain ⟨xs, m, _, _, _, hx, hf⟩ := DataW.trod_array Tryz.underlying68 h
    match xs, hx with
    | [y0, y1], _ =>
      have f0 : DataW.trod enc Tryz.prog W 0 (fun _ => true) true m 3 [u0] = some y0 := by have h := hf 0 (by omega); simpa [cells_int] using h
      have f1 : DataW.trod enc Tryz.prog W 0 (fun _ => true) true m 3 [u1] = some y1 := by have h := hf 1 (by omega); simpa [cells_int] using h
      obtain ⟨a0, e0, _⟩ := DataW.trod_int Tryz.underlying3 f0
      obtain ⟨a1, e1, _⟩ := DataW.trod_int Tryz.underlying3 f1
      cases e0
      cases e1
      exact ⟨(a0, a1), rfl⟩
theorem elem_rep_in (n : Nat) (cs : List Value) (y : DataW H × List MemPlace) (hl : cs.length = layRp.k) (h : DataW.trod enc Tryz.prog W 0 (fun _ => true) true n 53 cs = some y) : ∃ x : Rp, cs = layRp.cells x := by
  match cs, hl with
  | [u0, u1], _ =>
    obtain ⟨ys, n2, _, _, _, hyl, hf⟩ := DataW.trod_struct Tryz.underlying53 h
    match ys, hyl with
    | [y0, y1], _ =>
      have f0 : DataW.trod enc Tryz.prog W 0 (fun _ => true) true n2 3 [u0] = some y0 := by have h := hf 0 _ rfl; simpa [cells_int] using h
      have f1 : DataW.trod enc Tryz.prog W 0 (fun _ => true) true n2 4 [u1] = some y1 := by have h := hf 1 _ rfl; simpa [cells_bool] using h
      obtain ⟨a0, e0, _⟩ := DataW.trod_int Tryz.underlying3 f0
      obtain ⟨a1, e1, _⟩ := DataW.trod_bool Tryz.underlying4 f1
      cases e0
      cases e1
      exact ⟨⟨a0, a1⟩, rfl⟩
theorem elem_blast_in (n : Nat) (cs : List Value) (y : DataW H × List MemPlace) (hl : cs.length = layBl.k) (h : DataW.trod enc Tryz.prog W 0 (fun _ => true) true n 124 cs = some y) : ∃ x : Bl, cs = layBl.cells x := by
  match cs, hl with
  | [u0, u1, u2], _ =>
    obtain ⟨ys, n2, _, _, _, hyl, hf⟩ := DataW.trod_struct Tryz.underlying124 h
    match ys, hyl with
    | [y0, y1, y2], _ =>
      have f0 : DataW.trod enc Tryz.prog W 0 (fun _ => true) true n2 3 [u0] = some y0 := by have h := hf 0 _ rfl; simpa [cells_int] using h
      have f1 : DataW.trod enc Tryz.prog W 0 (fun _ => true) true n2 3 [u1] = some y1 := by have h := hf 1 _ rfl; simpa [cells_int] using h
      have f2 : DataW.trod enc Tryz.prog W 0 (fun _ => true) true n2 3 [u2] = some y2 := by have h := hf 2 _ rfl; simpa [cells_int] using h
      obtain ⟨a0, e0, _⟩ := DataW.trod_int Tryz.underlying3 f0
      obtain ⟨a1, e1, _⟩ := DataW.trod_int Tryz.underlying3 f1
      obtain ⟨a2, e2, _⟩ := DataW.trod_int Tryz.underlying3 f2
      cases e0
      cases e1
      cases e2
      exact ⟨⟨a0, a1, a2⟩, rfl⟩
theorem rows_ints : ∀ (l : List Int), layIn.rows l = l.map (.int .i64)
  | [] => rfl
  | x :: l => by
    show layIn.cells x ++ layIn.rows l = _
    rw [rows_ints l]; rfl
theorem trod_ints {n : Nat} {v : Value} {y : DataW H × List MemPlace} (h : DataW.trod enc Tryz.prog W 0 (fun _ => true) true n 42 [v] = some y) :
    ∃ (A : Option Addr) (c : Nat) (l : List Int), v = .slice A l.length c ∧ Ints W A l ∧ l.length ≤ c ∧ l.length ≤ 9223372036854775807 := by
  obtain ⟨A, c, l, h1, h2, h3, h4⟩ := trod_rows layIn Tryz.underlying42 (by kernel_rfl) elem_int_in h
  refine ⟨A, c, l, h1, ?_, h3, h4⟩
  unfold Rows at h2
  rw [rows_ints] at h2
  exact h2
theorem trod_pairs {n : Nat} {v : Value} {y : DataW H × List MemPlace} (h : DataW.trod enc Tryz.prog W 0 (fun _ => true) true n 22 [v] = some y) :
    ∃ (A : Option Addr) (c : Nat) (l : List (Int × Int)), v = .slice A l.length c ∧ Prs W A l ∧ l.length ≤ c ∧ l.length ≤ 9223372036854775807 := trod_rows layPr Tryz.underlying22 (by kernel_rfl) elem_pair_in h
theorem trod_reps {n : Nat} {v : Value} {y : DataW H × List MemPlace} (h : DataW.trod enc Tryz.prog W 0 (fun _ => true) true n 60 [v] = some y) :
    ∃ (A : Option Addr) (c : Nat) (l : List Rp), v = .slice A l.length c ∧ Reps W A l ∧ l.length ≤ c ∧ l.length ≤ 9223372036854775807 := trod_rows layRp Tryz.underlying60 (by kernel_rfl) elem_rep_in h
theorem trod_blasts {n : Nat} {v : Value} {y : DataW H × List MemPlace} (h : DataW.trod enc Tryz.prog W 0 (fun _ => true) true n 25 [v] = some y) :
    ∃ (A : Option Addr) (c : Nat) (l : List Bl), v = .slice A l.length c ∧ Blasts W A l ∧ l.length ≤ c ∧ l.length ≤ 9223372036854775807 := trod_rows layBl Tryz.underlying25 (by kernel_rfl) elem_blast_in h
theorem CtC.snoc {w : World} {a b : Value} {x : Ct} (ha : ∃ A c, a = .slice A x.st.length c ∧ Ints w A x.st ∧ x.st.length ≤ c) (hb : ∃ A c, b = .slice A x.rp.length c ∧ Reps w A x.rp ∧ x.rp.length ≤ c) : ∀ {xs : List Value} {l : List Ct}, CtC w xs l → CtC w (xs ++ [a, b]) (l ++ [x]) ∧ xs.length = l.length * 2
  | [], [], _ => ⟨⟨ha, hb, trivial⟩, rfl⟩
  | _ :: _ :: xs, _ :: l, h => by
    obtain ⟨h1, h2, h3⟩ := h
    obtain ⟨h4, h5⟩ := CtC.snoc ha hb h3
    exact ⟨⟨h1, h2, h4⟩, by simp only [List.length_cons]; omega⟩
  | [_], _, h => by cases ‹List Ct› <;> exact h.elim
theorem read_cts {a : Addr} : ∀ (len : Nat), (∀ i, i < len → ∃ (x : Ct) (A : Option Addr) (c : Nat) (A' : Option Addr) (c' : Nat), W.cell? (a.add (i * 2)) = some (.slice A x.st.length c) ∧ W.cell? (a.add (i * 2 + 1)) = some (.slice A' x.rp.length c') ∧ Ints W A x.st ∧ Reps W A' x.rp ∧ x.st.length ≤ c ∧ x.rp.length ≤ c') →
    ∃ (l : List Ct) (xs : List Value), l.length = len ∧ CtC W xs l ∧ xs.length = len * 2 ∧ ∀ j u, xs[j]? = some u → W.cell? (a.add j) = some u
  | 0, _ => ⟨[], [], rfl, trivial, rfl, (fun j u h => by simp at h)⟩
  | len + 1, h => by
    obtain ⟨l, xs, hl, hC, hx, hc⟩ := read_cts len (fun i hi => h i (by omega))
    obtain ⟨x, A, c, A', c', h0, h1, h2, h3, h4, h5⟩ := h len (by omega)
    refine ⟨l ++ [x], xs ++ [.slice A x.st.length c, .slice A' x.rp.length c'], by simp [hl], (CtC.snoc ⟨A, c, rfl, h2, h4⟩ ⟨A', c', rfl, h3, h5⟩ hC).1, by simp [hx]; omega, fun j u hu => ?_⟩
    by_cases hj : j < xs.length
    · rw [List.getElem?_append_left hj] at hu
      exact hc j u hu
    · rw [List.getElem?_append_right (by omega)] at hu
      rw [hx] at hu hj
      obtain ⟨r, rfl⟩ : ∃ r, j = len * 2 + r := ⟨j - len * 2, by omega⟩
      rw [Nat.add_sub_cancel_left] at hu
      match r, hu with
      | 0, hu => cases hu; exact h0
      | 1, hu => cases hu; exact h1
      | r + 2, hu => simp at hu
theorem trod_carts {n : Nat} {v : Value} {y : DataW H × List MemPlace} (h : DataW.trod enc Tryz.prog W 0 (fun _ => true) true n 26 [v] = some y) :
    ∃ (A : Option Addr) (c : Nat) (l : List Ct), v = .slice A l.length c ∧ Carts W A l ∧ l.length ≤ c ∧ l.length ≤ 9223372036854775807 := by
  rcases open_slice Tryz.underlying26 h with ⟨hcs, _⟩ | ⟨a, len, cap, m, n', D, Pl, hcs, hb, hl, hm, hmm, hx, hi⟩
  · cases hcs
    exact ⟨none, 0, [], rfl, Carts.nil _ _, by simp, by simp⟩
  · cases hcs
    have hC : Tryz.prog.cellsOf 62 = 2 := by kernel_rfl
    have hC1 : Tryz.prog.cellsOf 42 = 1 := by kernel_rfl
    have hC2 : Tryz.prog.cellsOf 60 = 1 := by kernel_rfl
    have hm2 : m = cap := by simpa using hmm
    simp only [maxLen] at hm
    obtain ⟨l, xs, hll, hCC, hxl, hc⟩ := read_cts (W := W) (a := a) len (fun i hi' => by
      obtain ⟨cs', hc, ht⟩ := hi i (by omega)
      rw [hC] at hc
      obtain ⟨_, hcl, hat⟩ := World.cells?_some hc
      obtain ⟨ys, n2, _, _, _, hyl, hf⟩ := DataW.trod_struct Tryz.underlying62 ht
      match cs', hcl with
      | [u0, u1], _ =>
        match ys, hyl with
        | [y0, y1], _ =>
          have f0 : DataW.trod enc Tryz.prog W 0 (fun _ => true) true n2 42 [u0] = some y0 := by have h := hf 0 _ rfl; simpa [hC1] using h
          have f1 : DataW.trod enc Tryz.prog W 0 (fun _ => true) true n2 60 [u1] = some y1 := by have h := hf 1 _ rfl; simpa [hC2] using h
          obtain ⟨A, c, st, e0, h0, h2, _⟩ := trod_ints (v := u0) f0
          obtain ⟨A', c', rp, e1, h1, h3, _⟩ := trod_reps (v := u1) f1
          subst e0
          subst e1
          have g0 := hat 0 (by omega)
          have g1 := hat 1 (by omega)
          rw [add_add] at g0 g1
          exact ⟨⟨st, rp⟩, A, c, A', c', g0, g1, h0, h1, h2, h3⟩)
    subst hll
    exact ⟨_, cap, l, rfl, ⟨xs, rd_of_cells hc, hCC⟩, hl, by omega⟩
/-- The fog that stands as v. -/
theorem open_fog {r : Reach} {b0 : Nat} {v : Value} {d : DataW H} {p : List MemPlace} (hv : Value.okWide Tryz.prog W r b0 28 v) (h : DataW.Trod enc Tryz.prog W 0 (fun _ => true) true 28 v d p) :
    ∃ f : Fg, FgR W v f ∧ f.ct.length ≤ 9223372036854775807 := by
  obtain ⟨cs, rfl, hsz⟩ := okWide_struct Tryz.underlying28 hv
  have hC : Tryz.prog.cellsOf 28 = 5 := by kernel_rfl
  have hCS : Tryz.prog.cellsOf 24 = 3 := by kernel_rfl
  have hC1 : Tryz.prog.cellsOf 22 = 1 := by kernel_rfl
  have hC2 : Tryz.prog.cellsOf 25 = 1 := by kernel_rfl
  have hC3 : Tryz.prog.cellsOf 26 = 1 := by kernel_rfl
  rw [hC] at hsz
  obtain ⟨l⟩ := cs
  match l, hsz with
  | [u0, u1, u2, u3, u4], _ =>
    obtain ⟨fuel, hf⟩ := h
    obtain ⟨ys, n, _, _, _, hyl, hg⟩ := DataW.trod_struct Tryz.underlying28 hf
    match ys, hyl with
    | [y0, y1, y2], _ =>
      have f0 : DataW.trod enc Tryz.prog W 0 (fun _ => true) true n 24 [u0, u1, u2] = some y0 := by have h := hg 0 _ rfl; simpa [hCS, Value.cells] using h
      have f1 : DataW.trod enc Tryz.prog W 0 (fun _ => true) true n 25 [u3] = some y1 := by have h := hg 1 _ rfl; simpa [hC2, Value.cells] using h
      have f2 : DataW.trod enc Tryz.prog W 0 (fun _ => true) true n 26 [u4] = some y2 := by have h := hg 2 _ rfl; simpa [hC3, Value.cells] using h
      obtain ⟨zs, n2, _, _, _, hzl, hk⟩ := DataW.trod_struct Tryz.underlying24 f0
      match zs, hzl with
      | [z0, z1, z2], _ =>
        have k0 : DataW.trod enc Tryz.prog W 0 (fun _ => true) true n2 3 [u0] = some z0 := by have h := hk 0 _ rfl; simpa [cells_int] using h
        have k1 : DataW.trod enc Tryz.prog W 0 (fun _ => true) true n2 3 [u1] = some z1 := by have h := hk 1 _ rfl; simpa [cells_int] using h
        have k2 : DataW.trod enc Tryz.prog W 0 (fun _ => true) true n2 22 [u2] = some z2 := by have h := hk 2 _ rfl; simpa [hC1] using h
        obtain ⟨pl, e0, _⟩ := DataW.trod_int Tryz.underlying3 k0
        obtain ⟨mi, e1, _⟩ := DataW.trod_int Tryz.underlying3 k1
        obtain ⟨A1, c1, tr, e2, h1, g1, _⟩ := trod_pairs k2
        obtain ⟨A2, c2, bl, e3, h2, g2, _⟩ := trod_blasts f1
        obtain ⟨A3, c3, ct, e4, h3, g3, g4⟩ := trod_carts f2
        cases e0
        cases e1
        subst e2
        subst e3
        subst e4
        exact ⟨⟨pl, mi, tr, bl, ct⟩, ⟨A1, c1, A2, c2, A3, c3, rfl, h1, h2, h3, g1, g2, g3⟩, g4⟩
end
end Go.Proofs.YtpbpcplboikpcaaGreat
