/- The fog of a law with one cart, whose reports are true of a real walk: its rows, and a report that is turned. No program stands here. -/
import Derived.Test.YtlonpgbapiemcaaGreatFGSt
import Derived.Test.YtlonpgbapiemcaaGreatFTripP
import Derived.Test.YtlonpgbapiemcaaGreatG4
import Derived.Test.YtlonpgbapiemcaaGreatFClaP
namespace Go.Proofs.YtlonpgbapiemcaaGreat
open Go Go.RowKit
set_option linter.unusedVariables false
set_option linter.unusedSimpArgs false

/-- One cart, whose reports are true of a real walk. -/
structure OneF (P M : Nat) (f : Fg) (st : List Int) (rs : List Rp) (l : List Int) : Prop where
  ok : FogOK f
  ag : agT f = false
  pl : 2 ≤ f.pl ∧ f.pl ≤ P
  mi : f.mi ≤ M
  ct : f.ct = [⟨st, rs⟩]
  real : RealW f ⟨st, rs⟩ l
  tr : TrueR f l rs
section
variable {P M : Nat} {f : Fg} {st : List Int} {rs : List Rp} {l : List Int}
theorem OneF.check (h : OneF P M f st rs l) : checkF f = 0 := check_of h.ok h.ag
theorem OneF.mem (h : OneF P M f st rs l) : (⟨st, rs⟩ : Ct) ∈ f.ct := by rw [h.ct]; simp
theorem OneF.at0 (h : OneF P M f st rs l) : ctAt f 0 = ⟨st, rs⟩ := by unfold ctAt; rw [h.ct]; rfl
theorem OneF.fits (h : OneF P M f st rs l) : fitsM (farM f) f ⟨st, rs⟩ l = true := real_fits h.ok (c := ⟨st, rs⟩) h.real h.tr.hd
theorem OneF.found (h : OneF P M f st rs l) : lostF (farM f) f ⟨st, rs⟩ = false := fits_found h.ok h.mem h.fits
theorem one_cart {f : Fg} {c : Ct} (hc : checkF f = 0) (h : f.ct = [c]) : cartE f 0 = 0 ∧ ctAt f 0 = c := by
  have e2 : ctAt f 0 = c := by unfold ctAt; rw [h]; rfl
  refine ⟨?_, e2⟩
  unfold cartE
  rw [if_pos hc]
  have : ctOK f 0 = true := by unfold ctOK; rw [inB_iff, h]; simp
  rw [this]; rfl
theorem made_one {K : Nat} {f : Fg} (h : MadeF P M K f) (hK : K ≤ 1) : ∃ st, f.ct = [⟨st, []⟩] := by
  have h1 := h.ct
  have h2 := h.ok.cn
  match hf : f.ct, h1, h2 with
  | [c], _, _ =>
    have := h.rp c (by rw [hf]; simp)
    exact ⟨c.st, by rw [← this]⟩
  | [], _, h2 => simp at h2
  | _ :: _ :: _, h1, _ => simp at h1; omega
theorem MadeF.one {K : Nat} {f : Fg} (h : MadeF P M K f) {st : List Int} (hc : f.ct = [⟨st, []⟩]) {l : List Int} (hr : RealW f ⟨st, []⟩ l) {rs : List Rp} (ht : TrueR f l rs) : OneF P M (withR f 0 ⟨st, []⟩ rs) st rs l where
  ok := withR_ok h.ok (by rw [hc]; rfl) ht.bl ht.one ht.len
  ag := h.ag
  pl := h.pl
  mi := h.mi
  ct := by unfold withR; rw [hc]; rfl
  real := ⟨hr.len, hr.pl, hr.st, hr.step⟩
  tr := ⟨ht.bl, ht.one, ht.len, ht.hd⟩
end
theorem ok_sized {f : Fg} (h : FogOK f) : f.sized where
  tr := by have := h.tn; omega
  bl := by have := h.bn; omega
  ct := by have := h.cn; omega
  each := fun x hx => by have := st_len h hx; have := h.rn x hx; omega
theorem MadeF.one_ {P M K : Nat} {f : Fg} (h : MadeF P M K f) {st : List Int} (hc : f.ct = [⟨st, []⟩]) {l : List Int} (hr : RealW f ⟨st, []⟩ l) {rs : List Rp} (ht : TrueR f l rs) : OneF P M (oneC f st rs) st rs l := by
  have := h.one hc hr ht
  have e : withR f 0 ⟨st, []⟩ rs = oneC f st rs := by unfold withR oneC; rw [hc]; rfl
  rw [e] at this
  exact this
theorem with_one {f : Fg} {st : List Int} (hc : f.ct = [⟨st, []⟩]) (rs : List Rp) : withR f 0 ⟨st, []⟩ rs = oneC f st rs := by unfold withR oneC; rw [hc]; rfl
theorem one_self {f : Fg} {st : List Int} (hc : f.ct = [⟨st, []⟩]) : f = oneC f st [] := by
  cases f
  simp only at hc
  subst hc
  rfl
section
variable {D F B : Nat} {w0 w : World} {f : Fg} {s : Ads} {xs : List Value} {st : List Int} {rs : List Rp}
theorem GSt.cells1 (h : GSt D F B w0 w (oneC f st rs) s xs) {g : Nat} (ea : s.a3 = some ⟨g, 0, none⟩) : w.cell? ⟨F, 0, none⟩ = some (.int .i64 f.pl) ∧ w.cell? ⟨F, 1, none⟩ = some (.int .i64 f.mi) ∧ w.cell? ⟨F, 2, none⟩ = some (.slice s.a1 f.tr.length s.c1) ∧ w.cell? ⟨F, 3, none⟩ = some (.slice s.a2 f.bl.length s.c2) ∧ w.cell? ⟨F, 4, none⟩ = some (.slice (some ⟨g, 0, none⟩) 1 s.c3) := by
  have q := h.cells
  rw [ea] at q
  exact q
theorem GSt.g1 (h : GSt D F B w0 w (oneC f st rs) s xs) {g : Nat} (ea : s.a3 = some ⟨g, 0, none⟩) : OwnG w (.agg #[.int .i64 f.pl, .int .i64 f.mi, .slice s.a1 f.tr.length s.c1, .slice s.a2 f.bl.length s.c2, .slice (some ⟨g, 0, none⟩) 1 s.c3]) (oneC f st rs) := by
  have q := h.g
  unfold Ads.val fval at q
  rw [ea] at q
  exact q
theorem GSt.one (h : GSt D F B w0 w f s xs) (hc : f.ct = [⟨st, rs⟩]) : ∃ g A1 c1 A2 c2, s.a3 = some ⟨g, 0, none⟩ ∧ xs = [.slice A1 st.length c1, .slice A2 rs.length c2] ∧
    w.ownsRow B 3 1 (.slice A1 st.length c1) st.length (st.map (.int .i64)) ∧ w.ownsRow B 82 2 (.slice A2 rs.length c2) rs.length (layRp.rows rs) ∧
    w.cell? ⟨g, 0, none⟩ = some (.slice A1 st.length c1) ∧ w.cell? ⟨g, 1, none⟩ = some (.slice A2 rs.length c2) := by
  have hoc := h.oc
  rw [hc] at hoc
  have hct := h.ct
  rw [hc] at hct
  match xs, hoc, hct with
  | [a, b], hoc, hct =>
    obtain ⟨⟨⟨A1, c1, e1, o1⟩, A2, c2, e2, o2, -⟩, -⟩ := hoc
    subst e1
    subst e2
    rcases hct.2 with ⟨e, e0⟩ | ⟨g, cap, cur, e, hB, hg, _⟩
    · simp at e0
    · simp only [Value.slice.injEq] at e
      have hct2 := hct
      rw [e.1] at hct2
      exact ⟨g, A1, c1, A2, c2, e.1, rfl, o1, o2, by rw [hct2.cellAt 0 (by simp)]; rfl, by rw [hct2.cellAt 1 (by simp)]; rfl⟩
/-- The same with names for what it is told of. -/
theorem GSt.oneAt (h : GSt D F B w0 w (oneC f st rs) s xs) {g : Nat} (ea : s.a3 = some ⟨g, 0, none⟩) {A1 A2 : Option Addr} {k1 k2 n : Nat} (ex : xs = [.slice A1 st.length k1, .slice A2 n k2]) (hn : rs.length = n) :
    w.cell? ⟨g, 0, none⟩ = some (.slice A1 st.length k1) ∧ w.cell? ⟨g, 1, none⟩ = some (.slice A2 n k2) ∧ w.ownsRow B 3 1 (.slice A1 st.length k1) st.length (st.map (.int .i64)) ∧ w.ownsRow B 82 2 (.slice A2 rs.length k2) rs.length (layRp.rows rs) := by
  obtain ⟨g', A1', k1', A2', k2', ega, exs, o1, o2, q0, q1⟩ := h.one rfl
  rw [ea] at ega
  injection ega with e1
  injection e1 with e1
  subst e1
  rw [ex] at exs
  simp only [List.cons.injEq, Value.slice.injEq, true_and, and_true] at exs
  obtain ⟨⟨rfl, rfl⟩, rfl, e4, rfl⟩ := exs
  subst hn
  exact ⟨q0, q1, o1, o2⟩
theorem GSt.rpOne {g : Nat} {ca : Ct} (h : GSt D F B w0 w f s xs) (ea : s.a3 = some ⟨g, 0, none⟩) (ha : f.ct[0]? = some ca) : (∃ u1, w.cell? ⟨g, 1, none⟩ = some u1) ∧ ∀ i, w.frozen? ⟨g, i, none⟩ = false := by
  obtain ⟨g1, e1, -, -, -, ⟨u1, p1⟩, fz⟩ := h.setRp ha (A := none) (cA := 0) (rs := []) (own_nil _ _ _ _)
  rw [ea] at e1
  injection e1 with e1
  injection e1 with e1
  subst e1
  exact ⟨⟨u1, p1⟩, fz⟩
theorem rows_hd : ∀ {rs : List Rp} {k : Nat} {r : Rp} (b : Bool), rs[k]? = some r → (layRp.rows rs)[k * 2 + 1]? = some (.bool r.hd) ∧ (layRp.rows rs).set (k * 2 + 1) (.bool b) = layRp.rows (rs.set k ⟨r.bl, b⟩)
  | [], k, r, b, h => by simp at h
  | x :: l, 0, r, b, h => by
    simp at h; subst h
    exact ⟨rfl, rfl⟩
  | x :: l, k + 1, r, b, h => by
    obtain ⟨h1, h2⟩ := rows_hd (rs := l) (k := k) (r := r) b (by simpa using h)
    rw [show (k + 1) * 2 + 1 = k * 2 + 1 + 1 + 1 by omega]
    have e1 : layRp.rows (x :: l) = .int .i64 x.bl :: .bool x.hd :: layRp.rows l := rfl
    have e2 : layRp.rows ((x :: l).set (k + 1) ⟨r.bl, b⟩) = .int .i64 x.bl :: .bool x.hd :: layRp.rows (l.set k ⟨r.bl, b⟩) := rfl
    rw [e1, e2]
    simp only [List.getElem?_cons_succ, List.set_cons_succ]
    exact ⟨h1, by rw [h2]⟩
/-- A report is turned where it lies. -/
theorem GSt.setHd (h : GSt D F B w0 w f s xs) (hc : f.ct = [⟨st, rs⟩]) {A2 : Option Addr} {c2 : Nat} {v0 : Value} (hxs : xs = [v0, .slice A2 rs.length c2]) {k : Nat} {r : Rp} (hk : rs[k]? = some r) (b : Bool) :
    ∃ g, A2 = some ⟨g, 0, none⟩ ∧ w.cell? ⟨g, k * 2 + 1, none⟩ = some (.bool r.hd) ∧ (∀ i, w.frozen? ⟨g, i, none⟩ = false) ∧
      GSt D F B w0 (w.setCell ⟨g, k * 2 + 1, none⟩ (.bool b)) (oneC f st (rs.set k ⟨r.bl, b⟩)) s xs ∧
      (∀ {e' : TypeId} {size' n' : Nat} {v' : Value} {ys' : List Value}, e' ≠ 82 → w.ownsRow B e' size' v' n' ys' → (w.setCell ⟨g, k * 2 + 1, none⟩ (.bool b)).ownsRow B e' size' v' n' ys') := by
  have hoc := h.oc
  rw [hc, hxs] at hoc
  obtain ⟨⟨⟨A1, c1, e1, o1⟩, A', c', e2, o2, -⟩, -⟩ := hoc
  simp only [Value.slice.injEq, true_and] at e2
  obtain ⟨rfl, rfl⟩ := e2
  dsimp only at o1 e1 o2
  have hkl := (List.getElem?_eq_some_iff.1 hk).1
  rcases o2.2 with ⟨e, e0⟩ | ⟨g, cap, cur, e, hBg, hg, _⟩
  · omega
  · simp only [Value.slice.injEq, true_and] at e
    obtain ⟨ea, ec⟩ := e
    subst ea
    obtain ⟨r1, r2⟩ := rows_hd b hk
    obtain ⟨o3, hgr⟩ := o2.stored (k * 2 + 1) (.bool b)
    rw [r2] at o3
    have hS : BelS (fun n => n = g) w (w.setCell ⟨g, k * 2 + 1, none⟩ (.bool b)) := BelS.setCell (S := fun n => n = g) (BelS.refl _ w) _ _ rfl
    have hlo := h.lo
    have hF : ¬ F = g := fun e => by
      have h1 := h.blk
      rw [e, hg] at h1
      injection h1 with h1
      injection h1 with _ h1 _
      exact absurd h1 (by decide)
    have k4 : ∀ {e' : TypeId} {size' n' : Nat} {v' : Value} {ys' : List Value}, e' ≠ 82 → w.ownsRow B e' size' v' n' ys' → (w.setCell ⟨g, k * 2 + 1, none⟩ (.bool b)).ownsRow B e' size' v' n' ys' := fun hne h5 => hS.own h5 (fun g' hg' e' => by
      subst e'
      exact own_ne h5 hg (fun x => hne x.symm) hg')
    refine ⟨g, rfl, ?_, fun i => by simp [World.frozen?, hg], ⟨?_, k4 (by decide) h.tr, k4 (by decide) h.bl, ?_, ?_, ?_, ?_, h.lo⟩, k4⟩
    · have hl := o2.1
      rw [o2.cellAt (k * 2 + 1) (by omega)]; exact r1
    · have h1 := hS.heap h.blk hF
      rw [h1]
      unfold mcells
      rw [hc]; rfl
    · have := k4 (by decide) h.ct
      rw [hc] at this
      exact this
    · rw [hxs]
      refine ⟨⟨⟨A1, c1, e1, k4 (by decide) o1⟩, some ⟨g, 0, none⟩, c2, ?_, ?_, fun e => by cases e⟩, trivial⟩
      · simp
      · simpa using o3
    · exact h.hp.belS hS (fun n hn e => by omega)
    · exact Ext.then_belS h.ext (fun n e => by omega) hS
end
end Go.Proofs.YtlonpgbapiemcaaGreat
