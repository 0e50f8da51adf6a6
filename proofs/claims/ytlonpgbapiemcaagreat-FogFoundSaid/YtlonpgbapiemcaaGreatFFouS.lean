/- FogFound's `can`: rows of places, one for each minute, in a block of its own; what FogFound is told. No program stands here. -/
import Derived.Test.YtlonpgbapiemcaaGreatFOne
import Derived.Test.YtlonpgbapiemcaaGreatFFouP
import Derived.Test.YtlonpgbapiemcaaGreatFWalk
import Derived.Test.YtlonpgbapiemcaaGreatFFits
import Derived.Deep.OwnRows
namespace Go.Proofs.YtlonpgbapiemcaaGreat
open Go Go.RowKit
set_option linter.unusedVariables false
set_option linter.unusedSimpArgs false

/-- The first j rows stand. -/
def CanSt (w : World) (B M : Nat) (CL : Nat → List Int) (j : Nat) : Prop := ∃ vs : List Value, w.heap[B]? = some (.cells vs.toArray 37 (0, 0)) ∧ vs.length = M ∧ (∀ v ∈ vs, ∃ A n k, v = .slice A n k) ∧
  ∀ i, i < j → i < M → ∃ A k, vs[i]? = some (.slice A (CL i).length k) ∧ Ints w A (CL i) ∧ (CL i).length ≤ k
theorem infoSlice : (Tryz.prog.info? 37).map (fun i => (i.zero, i.size, i.bytes)) = some (some (.slice none 0 0), 1, 24) := by kernel_rfl
theorem made_slices (n : Nat) : madeCells #[.slice none 0 0] n = (List.replicate n (Value.slice none 0 0)).toArray := by
  apply Array.ext
  · simp [madeCells]
  · intro i h1 h2
    simp [madeCells, Nat.mod_one]
theorem CanSt.start (w : World) (M : Nat) (CL : Nat → List Int) : CanSt (w.alloc (.cells (madeCells #[.slice none 0 0] M) 37)) w.heap.size M CL 0 := by
  refine ⟨List.replicate M (.slice none 0 0), ?_, by simp, fun v hv => ?_, fun i h => by omega⟩
  · rw [made_slices]; exact heap_alloc_new w _
  · rw [(List.mem_replicate.1 hv).2]; exact ⟨_, _, _, rfl⟩
theorem CanSt.ext {w w' : World} {B M : Nat} {CL : Nat → List Int} {j : Nat} (h : CanSt w B M CL j) (hx : Ext w w') : CanSt w' B M CL j := by
  obtain ⟨vs, h1, h2, h3, h4⟩ := h
  refine ⟨vs, (Below.block hx B (Array.getElem?_eq_some_iff.1 h1).1).trans h1, h2, h3, fun i hi hm => ?_⟩
  obtain ⟨A, k, e1, e2, e3⟩ := h4 i hi hm
  exact ⟨A, k, e1, e2.ext hx, e3⟩
theorem ints_set {w : World} {B : Nat} {vs : List Value} (hB : w.heap[B]? = some (.cells vs.toArray 37 (0, 0))) (hv : ∀ v ∈ vs, ∃ A n k, v = .slice A n k) {A : Option Addr} {l : List Int} (h : Ints w A l) (i : Nat) (v : Value) : Ints (w.setCell ⟨B, i, none⟩ v) A l := by
  rcases h with h | ⟨b, off, rfl, hc⟩
  · exact .inl h
  · refine .inr ⟨b, off, rfl, fun j u hu => ?_⟩
    have h1 := hc j u hu
    have hne : b ≠ B := fun e => by
      subst e
      rw [cell_of_row w b (off + j) _ _ _ hB] at h1
      have h2 : vs[off + j]? = some u := by simpa using h1
      obtain ⟨A', n, k, e⟩ := hv u (List.mem_of_getElem? h2)
      subst e
      rw [List.getElem?_map] at hu
      obtain ⟨x, -, hx⟩ := Option.map_eq_some_iff.1 hu
      cases hx
    rw [World.cell?_setCell_other (h := fun e => hne (by cases e; rfl))]
    exact h1
theorem CanSt.set {w : World} {B M : Nat} {CL : Nat → List Int} {j : Nat} (h : CanSt w B M CL j) (hj : j < M) {A : Option Addr} {k : Nat} (hI : Ints w A (CL j)) (hk : (CL j).length ≤ k) : CanSt (w.setCell ⟨B, j, none⟩ (.slice A (CL j).length k)) B M CL (j + 1) := by
  obtain ⟨vs, h1, h2, h3, h4⟩ := h
  have hs : ∀ {A : Option Addr} {l : List Int}, Ints w A l → Ints (w.setCell ⟨B, j, none⟩ (.slice A (CL j).length k)) A l := fun {A l} => fun h => ints_set h1 h3 h _ _
  refine ⟨vs.set j (.slice A (CL j).length k), ?_, by simp [h2], fun v hv => ?_, fun i hi hm => ?_⟩
  · rw [heap_set h1]; simp
  · rcases List.mem_or_eq_of_mem_set hv with hv | rfl
    · exact h3 v hv
    · exact ⟨_, _, _, rfl⟩
  · by_cases e : i = j
    · subst e
      exact ⟨A, k, by rw [List.getElem?_set_self (by omega)], ints_set h1 h3 hI _ _, hk⟩
    · obtain ⟨A', k', e1, e2, e3⟩ := h4 i (by omega) hm
      exact ⟨A', k', by rw [List.getElem?_set_ne (fun x => e x.symm)]; exact e1, ints_set h1 h3 e2 _ _, e3⟩
theorem CanSt.any {w : World} {B M : Nat} {CL : Nat → List Int} {j : Nat} (h : CanSt w B M CL j) {i : Nat} (hi : i < M) : (∃ v, w.cell? ⟨B, i, none⟩ = some v) ∧ w.frozen? ⟨B, i, none⟩ = false := by
  obtain ⟨vs, h1, h2, -, -⟩ := h
  refine ⟨⟨vs[i], by rw [cell_of_row w B i _ _ _ h1]; simp [h2, hi]⟩, by simp [World.frozen?, h1]⟩
theorem CanSt.at_ {w : World} {B M : Nat} {CL : Nat → List Int} {j : Nat} (h : CanSt w B M CL j) {i : Nat} (hij : i < j) (hi : i < M) : ∃ A k, w.cell? ⟨B, i, none⟩ = some (.slice A (CL i).length k) ∧ Ints w A (CL i) ∧ (CL i).length ≤ k := by
  obtain ⟨vs, h1, h2, -, h4⟩ := h
  obtain ⟨A, k, e1, e2, e3⟩ := h4 i hij hi
  exact ⟨A, k, by rw [cell_of_row w B i _ _ _ h1]; simpa using e1, e2, e3⟩
/-- What FogFound is told of the cart. -/
structure FouOK (f : Fg) (st : List Int) (rs : List Rp) (la : List Int) (CL : Nat → List Int) : Prop where
  cnt : cartE (oneC f st rs) 0 = 0 ∧ ¬ countV (oneC f st rs) 0 < 1
  ck : checkF (oneC f st rs) = 0
  at0 : ∀ m : Nat, m ≤ f.mi.toNat → atE (oneC f st rs) 0 (m : Int) = 0 ∧ atL (oneC f st rs) 0 (m : Int) = CL m
  mem : ∀ m : Nat, m ≤ f.mi.toNat → ∀ x ∈ CL m, 0 ≤ x ∧ x < f.pl
  len : ∀ m : Nat, (CL m).length ≤ 8
  real : ∀ m : Nat, m ≤ f.mi.toNat → memI (la.getD m 0) (CL m) = true
  fits : ∀ l, fitsM (farM (oneC f st rs)) (oneC f st rs) ⟨st, rs⟩ l = true → ∀ m : Nat, m ≤ f.mi.toNat → memI (l.getD m 0) (CL m) = true
  walk : ∀ m : Nat, m ≤ f.mi.toNat → ∀ x ∈ CL m, walkE (oneC f st rs) 0 (m : Int) x = 0
  ct : ctAt (oneC f st rs) 0 = ⟨st, rs⟩
  pos : ∀ m : Nat, m ≤ f.mi.toNat → 0 < (CL m).length
theorem fou_ok {P M : Nat} {f : Fg} {st : List Int} {rs : List Rp} {la : List Int} (h : OneF P M (oneC f st rs) st rs la) : ∃ CL, FouOK f st rs la CL := by
  obtain ⟨z1, z2⟩ := one_cart (c := ⟨st, rs⟩) h.check rfl
  have hf := h.found
  have hmi : 0 ≤ f.mi ∧ f.mi ≤ 8 := h.ok.mi
  have hpl : 1 ≤ f.pl ∧ f.pl ≤ 8 := h.ok.pl
  have hmo : ∀ m : Nat, m ≤ f.mi.toNat → miOK (oneC f st rs) (m : Int) = true := fun m hm => by
    unfold miOK
    rw [inB_iff]
    have e1 : (oneC f st rs).mi = f.mi := rfl
    rw [e1]; omega
  have hat : ∀ m : Nat, m ≤ f.mi.toNat → atE (oneC f st rs) 0 (m : Int) = 0 := fun m hm => by unfold atE; rw [if_neg (fun x => x z1), hmo m hm, z2, hf]; rfl
  have hmem : ∀ m : Nat, m ≤ f.mi.toNat → ∀ x ∈ natI (canN (farM (oneC f st rs)) (oneC f st rs) ⟨st, rs⟩ m), 0 ≤ x ∧ x < f.pl := fun m hm x hx => by
    unfold natI at hx
    obtain ⟨p, hp, rfl⟩ := List.mem_map.1 hx
    have h1 := can_lt (f := oneC f st rs) hm hp
    have e1 : (oneC f st rs).pl = f.pl := rfl
    rw [e1] at h1
    omega
  have hfit : ∀ l, fitsM (farM (oneC f st rs)) (oneC f st rs) ⟨st, rs⟩ l = true → ∀ m : Nat, m ≤ f.mi.toNat → memI (l.getD m 0) (natI (canN (farM (oneC f st rs)) (oneC f st rs) ⟨st, rs⟩ m)) = true := fun l hl m hm => by
    rw [mem_memI]
    have h1 := fits_can h.ok h.mem hl (m := m) hm
    have h2 := (fits_at h.ok h.mem hl (m := m) hm).2.1
    rw [h2]
    unfold natI
    exact List.mem_map.2 ⟨_, h1, rfl⟩
  refine ⟨fun m => natI (canN (farM (oneC f st rs)) (oneC f st rs) ⟨st, rs⟩ m), ⟨z1, ?_⟩, h.check, fun m hm => ⟨hat m hm, ?_⟩, hmem, fun m => (canN_lt h.ok.pl.2 m).2, fun m hm => hfit la h.fits m hm, hfit, fun m hm x hx => ?_, z2, fun m hm => ?_⟩
  · have := fits_pos h.ok h.mem h.fits
    unfold countV
    rw [if_pos z1, z2]
    exact Int.not_lt.2 this
  · unfold atL; rw [if_pos (hat m hm), z2, Int.toNat_natCast]
  · have hb := hmem m hm x hx
    have hpo : plOK (oneC f st rs) x = true := by
      unfold plOK
      rw [inB_iff]
      have e1 : (oneC f st rs).pl = f.pl := rfl
      rw [e1]; omega
    unfold walkE
    rw [if_neg (fun x => x z1), hmo m hm, if_pos rfl, if_pos hpo, z2, if_pos ⟨hf, by rw [Int.toNat_natCast, mem_memI]; exact hx⟩]
  · have := fits_can h.ok h.mem h.fits (m := m) hm
    have h2 := List.length_pos_of_mem this
    unfold natI
    rw [List.length_map]; exact h2
end Go.Proofs.YtlonpgbapiemcaaGreat
