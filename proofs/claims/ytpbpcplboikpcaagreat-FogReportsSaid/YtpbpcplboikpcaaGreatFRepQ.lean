/- What the law of reports holds against each other: the fog that is wanted, and how it lies. No program stands here. -/
import Derived.Test.YtpbpcplboikpcaaGreatFWith
import Derived.Test.YtpbpcplboikpcaaGreatFRepP
import Derived.Test.YtpbpcplboikpcaaGreatFRef14
import Derived.ArgAppend
namespace Go.Proofs.YtpbpcplboikpcaaGreat
open Go Go.RowKit Go.Shelf
set_option linter.unusedVariables false
set_option linter.unusedSimpArgs false

theorem cart_bad {f : Fg} {T k : Int} (h : checkF f = T) (hT : T ≠ 0) : cartE f k = T := by unfold cartE; rw [h, if_neg hT]
theorem cart_in {f : Fg} {k : Int} (h : checkF f = 0) : cartE f k = cartX f k := by unfold cartE; rw [if_pos h]; rfl
def zeroF : Fg := ⟨0, 0, [], [], []⟩
/-- The fog that is wanted: with the report, or an empty one. -/
def wantF (f : Fg) (k : Int) (r : Rp) : Fg := if withE f k r = 0 then withF f k r else zeroF
theorem WithF.zero (w : World) (B : Nat) : WithF w B (.agg #[.int .i64 0, .int .i64 0, .slice none 0 0, .slice none 0 0, .slice none 0 0]) zeroF :=
  ⟨none, 0, none, 0, none, 0, [], rfl, own_nil w B _ _, own_nil w B _ _, own_nil w B _ _, trivial⟩
theorem WithPost.all {w w' : World} {f : Fg} {k : Int} {r : Rp} {e : Ending} (h : WithPost w f k r e w') : ∃ v, e = .returned (.tuple #[v, .int .i64 (withE f k r)]) ∧ Ext w w' ∧ WithF w' w.heap.size v (wantF f k r) := by
  obtain ⟨v, he, hx, h1, h2⟩ := h
  refine ⟨v, he, hx, ?_⟩
  unfold wantF
  by_cases h0 : withE f k r = 0
  · rw [if_pos h0]; exact h1 h0
  · rw [if_neg h0, h2 h0]; exact WithF.zero _ _
theorem with_cart {f : Fg} {k : Int} {r : Rp} (h : withE f k r = 0) : cartE f k = 0 := by
  unfold withE at h
  by_cases hc : cartE f k = 0
  · exact hc
  · rw [if_pos hc] at h; exact absurd h hc
theorem cart_get {f : Fg} {k : Int} (h : cartE f k = 0) : FogOK f ∧ f.ct[k.toNat]? = some (ctAt f k) ∧ ctAt f k ∈ f.ct := by
  obtain ⟨hce, hk0, hk1⟩ := cartE_ok h
  obtain ⟨c, hcg⟩ := get_of_lt f.ct k.toNat (by omega)
  have e : ctAt f k = c := by unfold ctAt; rw [List.getD_eq_getElem?_getD, hcg]; rfl
  rw [e]
  exact ⟨checkF_ok hce, hcg, mem_of_get hcg⟩
theorem want_sized {f : Fg} {k : Int} {r : Rp} (hs : f.sized) : (wantF f k r).sized := by
  unfold wantF
  by_cases h : withE f k r = 0
  · rw [if_pos h]
    obtain ⟨hok, -, hcm⟩ := cart_get (with_cart h)
    refine ⟨hs.tr, hs.bl, by unfold withF; rw [List.length_set]; exact hs.ct, fun x hx => ?_⟩
    unfold withF at hx
    rcases List.mem_or_eq_of_mem_set hx with hx | hx
    · exact hs.each x hx
    · rw [hx]
      have h1 := hs.each _ hcm
      have h2 := hok.rn _ hcm
      refine ⟨h1.1, ?_⟩
      simp only [List.length_append, List.length_cons, List.length_nil]
      omega
  · rw [if_neg h]
    exact ⟨by simp [zeroF], by simp [zeroF], by simp [zeroF], fun x hx => by simp [zeroF] at hx⟩
theorem clash_len (f : Fg) (k : Int) : (clashL f k).length ≤ 1000 := by
  unfold clashL
  by_cases h : clashE f k = 0
  · rw [if_pos h]
    have hc : cartE f k = 0 := by
      unfold clashE at h
      by_cases hc : cartE f k = 0
      · exact hc
      · rw [if_pos hc] at h; exact absurd h hc
    obtain ⟨hok, -, hcm⟩ := cart_get hc
    cases hf : clashF (farM f) f (ctAt f k) with
    | none => simp
    | some l =>
      rw [clash_few hok hcm] at hf
      have ha := (fewL_some hf).1
      have h2 := hok.rn _ hcm
      rcases ha.len with h3 | h3
      · simp only [Option.getD_some]; omega
      · simp [h3]
  · rw [if_neg h]; simp

/-! ### A fog in a block -/
def FogAt (w : World) (B : Nat) (f : Fg) : Prop := ∃ a1 c1 a2 c2 a3 c3, (w.cell? ⟨B, 0, none⟩ = some (.int .i64 f.pl) ∧ w.cell? ⟨B, 1, none⟩ = some (.int .i64 f.mi) ∧ w.cell? ⟨B, 2, none⟩ = some (.slice a1 f.tr.length c1) ∧ w.cell? ⟨B, 3, none⟩ = some (.slice a2 f.bl.length c2) ∧ w.cell? ⟨B, 4, none⟩ = some (.slice a3 f.ct.length c3)) ∧
  FgR w (.agg #[.int .i64 f.pl, .int .i64 f.mi, .slice a1 f.tr.length c1, .slice a2 f.bl.length c2, .slice a3 f.ct.length c3]) f
theorem FogAt.ext {w w' : World} {B : Nat} {f : Fg} (h : FogAt w B f) (hx : Ext w w') : FogAt w' B f := by
  obtain ⟨a1, c1, a2, c2, a3, c3, ⟨h0, h1, h2, h3, h4⟩, h5⟩ := h
  exact ⟨a1, c1, a2, c2, a3, c3, ⟨hx.cell h0, hx.cell h1, hx.cell h2, hx.cell h3, hx.cell h4⟩, h5.ext hx⟩
theorem FogAt.zero {w : World} {B : Nat} (h : w.heap[B]? = some (.cells #[.int .i64 0, .int .i64 0, .slice none 0 0, .slice none 0 0, .slice none 0 0] 28 (0, 0))) : FogAt w B zeroF := by
  have c0 := block_cell (i := 0) h
  have c1 := block_cell (i := 1) h
  have c2 := block_cell (i := 2) h
  have c3 := block_cell (i := 3) h
  have c4 := block_cell (i := 4) h
  simp only [List.getElem?_toArray, List.getElem?_cons_zero, List.getElem?_cons_succ] at c0 c1 c2 c3 c4
  exact ⟨none, 0, none, 0, none, 0, ⟨c0, c1, c2, c3, c4⟩, (WithF.zero w 0).fg⟩

/-! ### A cart's reports in a row of carts -/
theorem OCt.get {fl : Bool} {w : World} {B : Nat} : ∀ {xs : List Value} {l : List Ct} {k : Nat} {x : Ct}, OCt fl w B xs l → l[k]? = some x →
    ∃ A q A' q', xs[k * 2]? = some (.slice A x.st.length q) ∧ xs[k * 2 + 1]? = some (.slice A' x.rp.length q') ∧ OC fl w B (.slice A x.st.length q) (.slice A' x.rp.length q') x
  | [], [], k, x, _, hk => by simp at hk
  | a :: b :: xs, y :: l, k, x, h, hk => by
    cases k with
    | zero =>
      simp at hk; subst hk
      obtain ⟨⟨A, q, ea, ha⟩, A', q', eb, hb⟩ := h.1
      subst ea
      subst eb
      exact ⟨A, q, A', q', rfl, rfl, ⟨A, q, rfl, ha⟩, A', q', rfl, hb⟩
    | succ k =>
      have := OCt.get h.2 (by simpa using hk)
      have e : (k + 1) * 2 = k * 2 + 1 + 1 := by omega
      rw [e]
      simp only [List.getElem?_cons_succ]
      exact this
  | [_], _, _, _, h, _ => by cases ‹List Ct› <;> exact h.elim
theorem OCt.set_rep {fl : Bool} {w : World} {B : Nat} {r : Rp} {A' : Option Addr} {c' : Nat} {x : Ct} (hR : Reps w A' (x.rp ++ [r])) (hc : x.rp.length + 1 ≤ c') : ∀ {xs : List Value} {l : List Ct} {k : Nat}, OCt fl w B xs l → l[k]? = some x →
    CtC w (xs.set (k * 2 + 1) (.slice A' (x.rp.length + 1) c')) (l.set k { x with rp := x.rp ++ [r] })
  | [], [], k, _, hk => by simp at hk
  | a :: b :: xs, y :: l, k, h, hk => by
    cases k with
    | zero =>
      simp at hk; subst hk
      obtain ⟨⟨A, q, ea, ha⟩, -⟩ := h.1
      have e : (y.rp ++ [r]).length = y.rp.length + 1 := by simp
      exact ⟨⟨A, q, ea, Rd.of_own ha, own_cap ha⟩, ⟨A', c', by rw [e], hR, by rw [e]; exact hc⟩, h.2.toC⟩
    | succ k =>
      have := OCt.set_rep hR hc h.2 (show l[k]? = some x by simpa using hk)
      have e : (k + 1) * 2 + 1 = k * 2 + 1 + 1 + 1 := by omega
      rw [e]
      simp only [List.set_cons_succ]
      obtain ⟨⟨A, q, ea, ha⟩, A2, q2, eb, hb, -⟩ := h.1
      exact ⟨⟨A, q, ea, Rd.of_own ha, own_cap ha⟩, ⟨A2, q2, eb, Rd.of_own hb, own_cap hb⟩, this⟩
  | [_], _, _, h, _ => by cases ‹List Ct› <;> exact h.elim
theorem own_pos {w : World} {base e size n c : Nat} {A : Option Addr} {xs : List Value} (h : w.ownsRow base e size (.slice A n c) n xs) (hn : 0 < n) : ∃ g, A = some ⟨g, 0, none⟩ := by
  rcases h.2 with ⟨h, h2⟩ | ⟨g, cap, cur, h, _⟩
  · omega
  · cases h; exact ⟨g, rfl⟩
/-- append of one report onto a full row: a new row. -/
theorem append_rep (w : World) (ty : TypeId) {B n : Nat} {A : Option Addr} {xs : List Value} (h : w.ownsRow B 53 2 (.slice A n n) n xs) (hn : n ≤ 1000) (r : Rp) (C : Nat) (hr : Rd w (some ⟨C, 0, none⟩) (layRp.cells r)) :
    ∃ A' q w', (Builtin.append_ #[60, 60] ty #[.slice A n n, .slice (some ⟨C, 0, none⟩) 1 1]).run Tryz.prog w = .ok (.slice A' (n + 1) q) w' ∧ w'.ownsRow w.heap.size 53 2 (.slice A' (n + 1) q) (n + 1) (xs ++ layRp.cells r) ∧ Ext w w' := by
  obtain ⟨ht, ⟨i, z, hi, hz, hsize, hby, hzs⟩, hsz, hbp⟩ := elem_rep
  have hm : n + 1 ≤ maxLen := by simp only [maxLen]; omega
  have hnews : ∀ j u, (layRp.cells r)[j]? = some u → w.cell? ((⟨C, 0, none⟩ : Addr).add j) = some u := fun j u hj => by
    rcases hr with e | ⟨b, off, e, hc⟩
    · rw [e] at hj; simp at hj
    · cases e
      rw [Addr.add_lit]; exact hc j u hj
  rcases h.2 with ⟨e, h2⟩ | ⟨g, cap, cur, e, hb, hg, hnc, hcm, hcs, ht2⟩
  · have hx : A = none ∧ n = 0 := by injection e with e1 e2 e3; exact ⟨e1, e2⟩
    obtain ⟨rfl, rfl⟩ := hx
    have hxs : xs = [] := List.eq_nil_of_length_eq_zero (by simpa using h.1)
    subst hxs
    obtain ⟨v', w', hrun, h3, h4, -, -⟩ := run_append_own_at (P := Tryz.prog) w w.heap.size _ ty _ i z 2 16 ht hi hz hsize hby hzs hsz (.slice none 0 0) 0 [] (own_nil _ _ _ _) ⟨C, 0, none⟩ 1 1 (layRp.cells r) rfl hnews (layRp.one r) hm (by decide) (Nat.le_refl _)
    obtain ⟨A', q, rfl⟩ := own_slice h3
    exact ⟨A', q, w', hrun, h3, Ext.grown (Ext.refl _) h4 (fun k e => by cases e)⟩
  · injection e with e1 e2 e3
    subst e1
    obtain ⟨v', w', hrun, h3, h4⟩ := run_append_arg_grows (P := Tryz.prog) w _ ty _ i z 2 16 ht hi hz hsize hby hzs hsz ⟨g, 0, none⟩ n n xs h.1 (fun j u hj => by rw [Addr.add_lit, Nat.zero_add]; exact (h.cellAt j (by have := (List.getElem?_eq_some_iff.1 hj).1; rw [h.1] at this; exact this)).trans hj) ⟨C, 0, none⟩ 1 1 (layRp.cells r) rfl hnews (by omega) hm (by omega)
    obtain ⟨A', q, rfl⟩ := own_slice h3
    exact ⟨A', q, w', hrun, h3, Ext.grown (Ext.refl _) h4 (fun k e => by cases e)⟩
end Go.Proofs.YtpbpcplboikpcaaGreat
