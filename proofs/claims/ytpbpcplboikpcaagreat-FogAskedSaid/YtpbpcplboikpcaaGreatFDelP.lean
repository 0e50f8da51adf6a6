/- slices.Delete of one pair out of an own row. -/
import Derived.Deep.RegionLaw
import Derived.Test.YtpbpcplboikpcaaGreatFDele
import Derived.Test.YtpbpcplboikpcaaGreatFGSt
namespace Go.Proofs.YtpbpcplboikpcaaGreat
open Go Go.RowKit Go.Shelf
set_option linter.unusedVariables false
set_option linter.unusedSimpArgs false

theorem own_setCellsK {base g n cap sz : Nat} {e : TypeId} : ∀ (vs : List Value) (o : Nat) (w : World) (ys : List Value), w.ownsRow base e sz (.slice (some ⟨g, 0, none⟩) n cap) n ys → o + vs.length ≤ n * sz →
    (w.setCells g o vs).ownsRow base e sz (.slice (some ⟨g, 0, none⟩) n cap) n (ys.take o ++ vs ++ ys.drop (o + vs.length)) ∧ BelS (fun k => k = g) w (w.setCells g o vs)
  | [], o, w, ys, h, _ => ⟨by simpa [World.setCells] using h, BelS.refl _ w⟩
  | v :: vs, o, w, ys, h, hl => by
    have hlen : ys.length = n * sz := h.1
    simp only [List.length_cons] at hl
    have h1 := (h.stored o v).1
    obtain ⟨h2, h3⟩ := own_setCellsK vs (o + 1) _ _ h1 (by omega)
    refine ⟨?_, (BelS.setCell (S := fun k => k = g) (BelS.refl _ w) ⟨g, o, none⟩ v rfl).trans h3⟩
    have e1 : (ys.set o v).take (o + 1) = ys.take o ++ [v] := by
      rw [List.take_set, List.take_succ_eq_append_getElem (by omega), List.set_append_right _ _ (by simp; omega)]
      simp [hlen, Nat.min_eq_left (show o ≤ n * sz by omega)]
    have e2 : (ys.set o v).drop (o + 1 + vs.length) = ys.drop (o + (vs.length + 1)) := by
      rw [List.drop_set_of_lt (by omega)]
      congr 1; omega
    rw [e1, e2] at h2
    show ((w.setCell ⟨g, o, none⟩ v).setCells g (o + 1) vs).ownsRow _ _ _ _ _ _
    simpa using h2
theorem own_narrow {w : World} {base e sz g n m cap : Nat} {ys : List Value} (h : w.ownsRow base e sz (.slice (some ⟨g, 0, none⟩) n cap) n ys) (hm : m ≤ n) : w.ownsRow base e sz (.slice (some ⟨g, 0, none⟩) m cap) m (ys.take (m * sz)) := by
  rcases h.2 with ⟨h', _⟩ | ⟨g', cap', cur, h', hb, hg, hnc, hcm, hcs, htake⟩
  · simp at h'
  · simp only [Value.slice.injEq, Option.some.injEq, Addr.mk.injEq, and_true, true_and] at h'
    obtain ⟨rfl, rfl⟩ := h'
    have hms : m * sz ≤ n * sz := Nat.mul_le_mul_right sz hm
    refine ⟨by rw [List.length_take, h.1]; omega, .inr ⟨g, cap, cur, rfl, hb, hg, by omega, hcm, hcs, ?_⟩⟩
    rw [← htake, List.take_take, Nat.min_eq_left hms]
theorem rows_take {α : Type} (F : Lay α) : ∀ (l : List α) (i : Nat), (F.rows l).take (i * F.k) = F.rows (l.take i) ∧ (F.rows l).drop (i * F.k) = F.rows (l.drop i)
  | [], i => by simp [Lay.rows]
  | x :: l, 0 => by simp [Lay.rows]
  | x :: l, i + 1 => by
    obtain ⟨h1, h2⟩ := rows_take F l i
    have e : (i + 1) * F.k = (F.cells x).length + i * F.k := by rw [F.len, Nat.add_mul]; omega
    have er : F.rows (x :: l) = F.cells x ++ F.rows l := rfl
    have er2 : F.rows (x :: l.take i) = F.cells x ++ F.rows (l.take i) := rfl
    rw [e, er, List.take_length_add_append, List.drop_length_add_append, h1, h2]
    exact ⟨er2.symm, rfl⟩
set_option maxHeartbeats 4000000 in
set_option maxRecDepth 100000 in
theorem deleteP_any (w0 : World) (g cap i : Nat) (l : List (Int × Int)) (w : World) (hown : w.ownsRow w0.heap.size 68 2 (.slice (some ⟨g, 0, none⟩) l.length cap) l.length (layPr.rows l)) (hx : Ext w0 w) (hi : i < l.length) (hl : l.length ≤ 1000) :
    Calls Tryz.prog 77 #[.slice (some ⟨g, 0, none⟩) l.length cap, .int .i64 (i : Int), .int .i64 ((i : Int) + 1)] w fun e w' =>
      e = .returned (.slice (some ⟨g, 0, none⟩) (l.eraseIdx i).length cap) ∧ w'.ownsRow w0.heap.size 68 2 (.slice (some ⟨g, 0, none⟩) (l.eraseIdx i).length cap) (l.eraseIdx i).length (layPr.rows (l.eraseIdx i)) ∧ Ext w0 w' := by
  have hlen : (l.eraseIdx i).length = l.length - 1 := by rw [List.length_eraseIdx, if_pos hi]
  obtain ⟨n, hn⟩ : ∃ n, l.length = n := ⟨_, rfl⟩
  have hcap := own_cap hown
  have hmax : cap ≤ 9223372036854775807 := by
    rcases hown.2 with ⟨e, _⟩ | ⟨_, _, _, e, _, _, _, h, _⟩
    · cases e
    · cases e; unfold maxLen at h; omega
  have hg0 := (hown.lt g rfl).1
  rw [hn] at hown hcap hi hl ⊢
  have hrl : (layPr.rows l).length = n * 2 := by rw [← hn]; exact layPr.rows_len l
  -- what is moved
  obtain ⟨news, hnews⟩ : ∃ news, news = layPr.rows (l.drop (i + 1)) := ⟨_, rfl⟩
  have hnl : news.length = (n - (i + 1)) * 2 := by rw [hnews, layPr.rows_len, List.length_drop, hn]; rfl
  have hget : ∀ t u, news[t]? = some u → w.cell? ⟨g, (i + 1) * 2 + t, none⟩ = some u := fun t u hu => by
    have hd := (rows_take layPr l (i + 1)).2
    rw [hnews, ← hd, List.getElem?_drop] at hu
    have ht := (List.getElem?_eq_some_iff.1 hu).1
    have e : (i + 1) * layPr.k + t = (i + 1) * 2 + t := rfl
    rw [e] at hu ht
    rw [hown.cellAt _ (by omega)]; exact hu
  have hdr := own_below hown (Ext.drew (Ext.refl w))
  obtain ⟨k1, k2⟩ := own_setCellsK news (i * 2) w.drew _ hdr (by rw [hnl]; omega)
  obtain ⟨zs1, hzs1⟩ : ∃ zs1, (layPr.rows l).take (i * 2) ++ news ++ (layPr.rows l).drop (i * 2 + news.length) = zs1 := ⟨_, rfl⟩
  rw [hzs1] at k1
  have hz2 : zs1.take ((n - 1) * 2) = layPr.rows (l.eraseIdx i) := by
    have h1 := (rows_take layPr l i).1
    have e1 : (layPr.rows l).take (i * 2) = layPr.rows (l.take i) := h1
    rw [← hzs1, List.take_left' (by rw [List.length_append, List.length_take, hrl, hnl]; omega), e1, hnews, ← Lay.rows_app, ← List.eraseIdx_eq_take_drop_succ]
  obtain ⟨i0, hi0, hsz⟩ : ∃ i0, Tryz.prog.info? 68 = some i0 ∧ i0.size = 2 := by
    have h : (Tryz.prog.info? 68).map (fun i => i.size) = some 2 := by kernel_rfl
    cases hi : Tryz.prog.info? 68 with
    | none => rw [hi] at h; cases h
    | some i => rw [hi] at h; exact ⟨i, rfl, by simpa using h⟩
  obtain ⟨W1, hW1⟩ : ∃ W1, W1 = w.drew.setCells g (i * 2) news := ⟨_, rfl⟩
  rw [← hW1] at k1 k2
  obtain ⟨W2, hcl, hb2, ys, hys, hO2⟩ := run_clear_own (P := Tryz.prog) (sz := 2) W1 22 68 68 (.agg #[.int .i64 0, .int .i64 0]) Tryz.underlying22 (fun w => by kernel_rfl) rfl (by intro v hv; simp [Value.cells] at hv; rcases hv with rfl | rfl <;> rfl) k1 (n - 1) (cap - (n - 1)) (by omega) (by decide)
  have hfin : W2.ownsRow w0.heap.size 68 2 (.slice (some ⟨g, 0, none⟩) (n - 1) cap) (n - 1) (layPr.rows (l.eraseIdx i)) := by
    have q := own_narrow (m := n - 1) hO2 (by omega)
    have e : (zs1.take ((n - 1) * 2) ++ ys).take ((n - 1) * 2) = layPr.rows (l.eraseIdx i) := by
      rw [hz2]
      exact List.take_left' (by rw [layPr.rows_len, hlen, hn]; rfl)
    rw [e] at q
    exact q
  have hext : Ext w0 W2 := Ext.then_belS (Ext.then_belS (hx.trans (Ext.drew (Ext.refl w))) (fun k e => by omega) k2) (fun k e => by omega) hb2
  rw [hlen, hn]
  have HW : Hid (W1 = w.drew.setCells g (i * 2) news) := hW1
  have HFIN := hid hfin
  have hK : Hid (i + (n - (i + 1)) = n - 1) := by unfold Hid; omega
  have hclk : (Builtin.clear_ #[22] 0 #[.slice (some ⟨g, (i + (n - (i + 1))) * 2, none⟩) (n - (i + (n - (i + 1)))) (cap - (i + (n - (i + 1))))]).run Tryz.prog W1 = .ok (.tuple #[]) W2 := by
    rw [hK.out]; exact hcl _
  have HGET := hid hget
  have HONE : Hid (∀ u ∈ news, u.oneCell' = true) := by unfold Hid; rw [hnews]; exact layPr.rows_one _
  have HSP : Hid (∀ t, t < news.length → (w.drew.cell? ⟨g, 0 + i * 2 + t, none⟩).isSome = true ∧ w.drew.frozen? ⟨g, 0 + i * 2 + t, none⟩ = false) := fun t ht => by
    rw [Nat.zero_add]
    refine ⟨?_, hdr.frozenAt _⟩
    rw [hdr.cellAt _ (by omega), List.getElem?_eq_getElem (by omega)]; rfl
  clear hfin hcl hW1 hO2 hys hb2 k1 k2 hz2 hzs1 hget hnews hown hdr hrl hlen
  have hiI : (i : Int) < (n : Int) := by omega
  have hicap : i ≤ cap := by omega
  have hi1 : i + 1 ≤ n := hi
  go_enter Tryz.func77, Tryz.ntmps77
  obtain ⟨A, hA, hsrc⟩ : ∃ A : Addr, (if cap = i + 1 then some (⟨g, 0, none⟩ : Addr) else some ⟨g, (i + 1) * 2, none⟩) = some A ∧ Hid (∀ t u, news[t]? = some u → w.drew.cell? (A.add t) = some u) := by
    by_cases h : cap = i + 1
    · refine ⟨⟨g, 0, none⟩, by simp [h], fun t u hu => ?_⟩
      have h0 : news.length = 0 := by rw [hnl]; omega
      rw [List.length_eq_zero_iff.1 h0] at hu
      simp at hu
    · refine ⟨⟨g, (i + 1) * 2, none⟩, by simp [h], fun t u hu => ?_⟩
      rw [Addr.add_lit]
      exact HGET.out t u hu
  have hI1 : (0 : Int) ≤ (i : Int) + 1 := by omega
  have hI2 : (i : Int) + 1 ≤ (n : Int) := by omega
  have hic1 : i + 1 ≤ cap := by omega
  have s1 : Hid (news.length = (n - (i + 1)) * 2) := hnl
  have s2 : Hid (∀ u ∈ news, u.oneCell' = true) := HONE
  have s3 : Hid (∀ t, t < news.length → (w.drew.cell? ⟨g, 0 + i * 2 + t, none⟩).isSome = true ∧ w.drew.frozen? ⟨g, 0 + i * 2 + t, none⟩ = false) := HSP
  clear hnl
  go_wp2_with fail
  go_region_law (refine step_append_room rfl (.tmp 22) (.tmp 25) 22 rfl 68 i0 2 Tryz.underlying22 hi0 hsz g 0 i cap (by simp [Act.eval, Act.put]) A (n - (i + 1)) (cap - (i + 1)) news (by simp [Act.eval, Act.put]) s1.out hsrc.out s2.out (by omega) s3.out ?_; rw [Nat.zero_add, ← HW.out])
  go_wp2
  go_ret
  exact ⟨by rw [hK.out]; rfl, HFIN.out, hext⟩
end Go.Proofs.YtpbpcplboikpcaaGreat
