/- The walks of All and Shows. Printed by my gen_shows.py. -/
import Derived.Test.YtgnjhaomlbkgcaaWAsk2
namespace Go.Proofs.Ytgnjhaomlbkgcaa
open Go Go.RowKit Go.Shelf
set_option linter.unusedVariables false
set_option linter.unusedSimpArgs false

/-- Along a row: the event at which it ends, and its sum; none if it breaks off. -/
def alongC (l : List Bd) : Int → Int → List Int → Option (Int × Int)
  | a, s, [] => some (a, s)
  | a, s, i :: r => match l[i.toNat]? with
    | some x => if x.f = a then alongC l x.t (s + x.m) r else none
    | none => none
def showsOf (c : Cs) (a b : Int) (row : List Int) : Int × Int :=
  if checkC c ≠ 0 then (0, checkC c)
  else if (inB a 0 (c.ev - 1) && inB b 0 (c.ev - 1)) = false then (0, 1)
  else if c.all.length < row.length then (0, 2)
  else if (row.all fun i => inB i 0 ((c.all.length : Int) - 1)) = false then (0, 1)
  else match alongC c.all a 0 row with
    | some (e, s) => if e = b then (s, 0) else (0, 8)
    | none => (0, 8)

theorem sized_all {c : Cs} (h : checkC c = 0) : c.all.length * 24 ≤ 140737488355328 ∧ c.cl.length ≤ 9223372036854775807 := by
  have h1 := checkC_52 h
  obtain ⟨_, _, _, _, _, h6, _⟩ := manyOK_parts (checkC_ok h).1
  exact ⟨by omega, by omega⟩

/-! All -/
set_option maxHeartbeats 1000000 in
theorem allw_any (v : Value) (c : Cs) (w : World) (hc : CsR w v c) (hs : c.sized) :
    Calls Try.prog 23 #[v] w fun e w' => ∃ r, e = .returned (.tuple #[r, .int .i64 (checkC c)]) ∧ Ext w w' ∧ (checkC c = 0 → ∃ A' c', r = .slice A' c.all.length c' ∧ w'.ownsRow w.heap.size 35 3 (.slice A' c.all.length c') c.all.length (bcells c.all)) ∧ (checkC c ≠ 0 → r = .slice none 0 0) := by
  have hc' := hc
  obtain ⟨A1, c1, A2, c2, rfl, hB, hC⟩ := hc
  obtain ⟨T, hT⟩ : ∃ T, checkC c = T := ⟨_, rfl⟩
  have HT := hid hT
  rw [HT.out]
  clear hT
  go_enter Try.func23, Try.ntmps23
  go_wp2_with fail
  have hx0 : Ext w (w.alloc (.cells #[.int .i64 c.ev, .slice A1 c.bs.length c1, .int .i64 c.wi, .slice A2 c.cl.length c2] 26)) := Ext.alloc (Ext.refl w) _
  refine (check_any _ c _ (hc'.ext hx0) hs).mono ?_
  rintro e w1 ⟨rfl, hb1⟩
  have hx1 := hx0.trans hb1
  have kc0 := hb1.cell (p := ⟨w.heap.size, 0, none⟩) (u := .int .i64 c.ev) (by simp [go_sem])
  have kc1 := hb1.cell (p := ⟨w.heap.size, 1, none⟩) (u := .slice A1 c.bs.length c1) (by simp [go_sem])
  have kc2 := hb1.cell (p := ⟨w.heap.size, 2, none⟩) (u := .int .i64 c.wi) (by simp [go_sem])
  have kc3 := hb1.cell (p := ⟨w.heap.size, 3, none⟩) (u := .slice A2 c.cl.length c2) (by simp [go_sem])
  rw [HT.out]
  by_cases h0 : T = 0
  · have H0 : Hid (checkC c = 0) := HT.out.trans h0
    subst h0
    obtain ⟨z1, z2⟩ := sized_all H0.out
    go_wp2_with fail
    refine (all_calls _ c w1 (hc'.ext hx1) z1 z2).mono ?_
    rintro e w2 ⟨A', c', rfl, ho, hb2⟩
    have ho' := own_base ho hx1.size
    go_wp2
    go_ret2
    exact ⟨_, rfl, hx1.trans hb2, A', c', rfl, ho'⟩
  · have H0 := hid h0
    go_wp2
    go_ret2
    exact ⟨.slice none 0 0, rfl, hx1, fun h => absurd h H0.out, fun _ => rfl⟩

/-! Shows -/
theorem shows1_fn (w : World) (B : Nat) (A : Option Addr) (n k : Nat) (hn : n ≤ 52) (hB : w.cell? ⟨B, 0, none⟩ = some (.slice A n k)) :
    FnP Try.prog (.func (.func 98) #[] #[.pointer (some ⟨B, 0, none⟩)]) w IntR anyx (fun i => inB i 0 ((n : Int) - 1)) := by
  refine ⟨_, _, _, rfl, enters_of Try.func98 (by kernel_rfl) rfl, fun x v2 W _ hW hR => ?_⟩
  obtain rfl : v2 = .int .i64 x := hR
  have hcell := hW.cell hB
  show Calls _ _ #[_, _] _ _
  go_enter Try.func98, Try.ntmps98
  go_wp2_with fail
  refine (in_any _ _ _ _).mono ?_
  rintro e w1 ⟨rfl, rfl⟩
  go_wp2
  go_ret
  exact ⟨rfl, Ext.refl _⟩

theorem alongC_drop (l : List Bd) (row : List Int) (k : Nat) (i : Int) (a s : Int) (h : row[k]? = some i) : alongC l a s (row.drop k) = match l[i.toNat]? with
    | some x => if x.f = a then alongC l x.t (s + x.m) (row.drop (k + 1)) else none
    | none => none := by
  have hk : k < row.length := (List.getElem?_eq_some_iff.1 h).1
  rw [List.drop_eq_getElem_cons hk, (List.getElem?_eq_some_iff.1 h).2]
  rfl

set_option maxRecDepth 100000 in
set_option maxHeartbeats 2000000 in
theorem shows_any (v : Value) (c : Cs) (a b : Int) (A : Option Addr) (k : Nat) (row : List Int) (w : World) (hc : CsR w v c) (hs : c.sized) (hA : Ints w A row) (hl : row.length ≤ 9223372036854775807) :
    Calls Try.prog 34 #[v, .int .i64 a, .int .i64 b, .slice A row.length k] w fun e w' => e = .returned (.tuple #[.int .i64 (showsOf c a b row).1, .int .i64 (showsOf c a b row).2]) ∧ Ext w w' := by
  have hc' := hc
  obtain ⟨A1, c1, A2, c2, rfl, hB, hC⟩ := hc
  generalize hF : showsOf c a b row = F
  unfold showsOf at hF
  have HF := hid hF
  clear hF
  go_enter Try.func34, Try.ntmps34
  go_wp2_with fail
  have hx0 : Ext w (w.alloc (.cells #[.int .i64 c.ev, .slice A1 c.bs.length c1, .int .i64 c.wi, .slice A2 c.cl.length c2] 26)) := Ext.alloc (Ext.refl w) _
  refine (check_any _ c _ (hc'.ext hx0) hs).mono ?_
  rintro e w1 ⟨rfl, hb1⟩
  have hx1 := hx0.trans hb1
  have kc0 := hb1.cell (p := ⟨w.heap.size, 0, none⟩) (u := .int .i64 c.ev) (by simp [go_sem])
  have kc1 := hb1.cell (p := ⟨w.heap.size, 1, none⟩) (u := .slice A1 c.bs.length c1) (by simp [go_sem])
  have kc2 := hb1.cell (p := ⟨w.heap.size, 2, none⟩) (u := .int .i64 c.wi) (by simp [go_sem])
  have kc3 := hb1.cell (p := ⟨w.heap.size, 3, none⟩) (u := .slice A2 c.cl.length c2) (by simp [go_sem])
  by_cases h0 : checkC c = 0
  case neg =>
    rw [if_pos h0] at HF
    have H0 := hid h0
    generalize hE : checkC c = E at *
    clear hE
    go_wp2
    go_ret2
    exact ⟨by rw [← HF.out]; rfl, hx1⟩
  rw [if_neg (by simp [h0])] at HF
  have H0 := hid h0
  rw [h0]
  clear h0
  obtain ⟨ev1, ev8⟩ := checkC_ev H0.out
  obtain ⟨z1, z2⟩ := sized_all H0.out
  have h52 := checkC_52 H0.out
  go_wp2_with fail
  refine (all_calls _ c w1 (hc'.ext hx1) z1 z2).mono ?_
  rintro e w2 ⟨A', c', rfl, ho, hb2⟩
  have hx2 := hx1.trans hb2
  have hBo2 : Bounds w2 A' c.all := Rd.of_own ho
  clear ho
  have kd0 := fun o => (hb2.trans (Ext.alloc (Ext.refl w2) o)).cell kc0
  have kd1 := fun o => (hb2.trans (Ext.alloc (Ext.refl w2) o)).cell kc1
  have kd2 := fun o => (hb2.trans (Ext.alloc (Ext.refl w2) o)).cell kc2
  have kd3 := fun o => (hb2.trans (Ext.alloc (Ext.refl w2) o)).cell kc3
  go_wp2_with fail
  have hx2a : Ext w (w2.alloc (.cells #[.slice A' c.all.length c'] 23)) := hx2.trans (Ext.alloc (Ext.refl w2) _)
  refine (event_any _ c a _ (hc'.ext hx2a) ev1 ev8).mono ?_
  rintro e w3 ⟨rfl, hb3⟩
  have hx3 := hx2a.trans hb3
  have kb3 := hb3.cell (p := ⟨w2.heap.size, 0, none⟩) (u := .slice A' c.all.length c') (by simp [go_sem])
  have ke0 := hb3.cell (kd0 _)
  have ke1 := hb3.cell (kd1 _)
  have ke2 := hb3.cell (kd2 _)
  have ke3 := hb3.cell (kd3 _)
  have hBo3 : Bounds w3 A' c.all := (hBo2.ext (Ext.alloc (Ext.refl w2) _)).ext hb3
  have W3 : ∃ w4, Ext w w4 ∧ Ext w3 w4 := ⟨w3, hx3, Ext.refl _⟩
  clear kc0 kc1 kc2 kc3 kd0 kd1 kd2 kd3 hb1 hb2 hb3 W3
  cases hq1 : inB a 0 (c.ev - 1)
  · rw [if_pos (by simp [hq1])] at HF
    go_wp2
    go_ret2
    exact ⟨by rw [← HF.out]; rfl, hx3⟩
  go_wp2_with fail
  refine (event_any _ c b _ (hc'.ext hx3) ev1 ev8).mono ?_
  rintro e w4 ⟨rfl, hb4⟩
  have hx4 := hx3.trans hb4
  have kb4 := hb4.cell kb3
  have hBo4 := hBo3.ext hb4
  clear ke0 ke1 ke2 ke3 kb3 hBo3
  cases hq2 : inB b 0 (c.ev - 1)
  · rw [if_pos (by simp [hq2])] at HF
    go_wp2
    go_ret2
    exact ⟨by rw [← HF.out]; rfl, hx4⟩
  rw [if_neg (by simp [hq1, hq2])] at HF
  by_cases hq3 : c.all.length < row.length
  · rw [if_pos hq3] at HF
    have hq3' : (c.all.length : Int) < (row.length : Int) := by omega
    go_wp2
    go_ret2
    exact ⟨by rw [← HF.out]; rfl, hx4⟩
  rw [if_neg hq3] at HF
  have hq3' : ¬ (c.all.length : Int) < (row.length : Int) := by omega
  go_wp2_with fail
  refine (every_int A k row _ anyx _ w4 (hA.ext hx4) hl (anyx_all _) (shows1_fn w4 w2.heap.size A' c.all.length c' h52 kb4)).mono ?_
  rintro e w5 ⟨rfl, hb5⟩
  have hx5 := hx4.trans hb5
  have kb5 := hb5.cell kb4
  have hBo5 := hBo4.ext hb5
  cases hq4 : row.all fun i => inB i 0 ((c.all.length : Int) - 1)
  · rw [if_pos hq4] at HF
    go_wp2
    go_ret2
    exact ⟨by rw [← HF.out]; rfl, hx5⟩
  rw [if_neg (by simp [hq4])] at HF
  have hrow : ∀ i ∈ row, 0 ≤ i ∧ i ≤ (c.all.length : Int) - 1 := fun i hi => inB_iff.1 (List.all_eq_true.1 hq4 i hi)
  have HROW := hid hrow
  clear hrow hq4
  have HL : Hid (∀ b ∈ c.all, -1000 ≤ b.m ∧ b.m ≤ 1000) := fun b hb => limOK_get (checkC_ok H0.out).2.1 hb
  obtain ⟨b0, hb0⟩ : ∃ b0, b0 = b := ⟨_, rfl⟩
  go_wp2
  go_loopw [1, 12, 47] (fun s1 s12 s47 wr => ∃ (kk : Nat) (at_ s : Int), kk ≤ row.length ∧ s47 = .int .i64 kk ∧ s1 = .int .i64 at_ ∧ s12 = .int .i64 s ∧ Hid ((match alongC c.all at_ s (row.drop kk) with | some (e, s) => if e = b then (s, 0) else (0, 8) | none => ((0, 8) : Int × Int)) = F) ∧ -(1000 * kk) ≤ s ∧ s ≤ 1000 * kk ∧ Ext w5 wr) (fun _ _ i _ => row.length - (intOf i).toNat)
  case atStart => exact ⟨0, a, 0, Nat.zero_le _, rfl, rfl, rfl, HF, by simp, by simp, Ext.refl _⟩
  case round =>
    obtain ⟨kk, at_, s, hk, rfl, rfl, rfl, HF, hs1, hs2, hxr⟩ := hrel
    by_cases hlt : kk < row.length
    · have hlt' : (kk : Int) < (row.length : Int) := by omega
      obtain ⟨i, hi⟩ := get_of_lt row kk hlt
      obtain ⟨hi0, hi1⟩ := HROW.out i (mem_of_get hi)
      obtain ⟨n, rfl⟩ : ∃ n : Nat, i = n := ⟨i.toNat, by omega⟩
      have hn : n < c.all.length := by omega
      have hn' : (n : Int) < (c.all.length : Int) := by omega
      obtain ⟨x, hx⟩ := get_of_lt c.all n hn
      have hxm := HL.out x (mem_of_get hx)
      obtain ⟨rb, roff, rfl, cr⟩ := Ints.at_ (hA.ext (hx5.trans hxr)) hi
      obtain ⟨bb, boff, rfl, e0, e1, e2⟩ := (hBo5.ext hxr).at_ hx
      have kbr := hxr.cell kb5
      have HX : Hid ((match (if x.f = at_ then alongC c.all x.t (s + x.m) (row.drop (kk + 1)) else none) with | some (e, s) => if e = b then (s, 0) else (0, 8) | none => ((0, 8) : Int × Int)) = F) := by
        unfold Hid
        rw [← HF.out, alongC_drop c.all row kk n at_ s hi]
        simp only [Int.toNat_natCast, hx]
      have hwr : IntKind.i64.wrap (s + x.m) = s + x.m := IntWalk.i64_in _ ⟨by omega, by omega⟩
      have hxr2 : Ext w5 (wr.alloc (.cells #[.int .i64 x.f, .int .i64 x.t, .int .i64 x.m] 35)) := hxr.trans (Ext.alloc (Ext.refl _) _)
      have g1 : (wr.alloc (.cells #[.int .i64 x.f, .int .i64 x.t, .int .i64 x.m] 35)).cell? ⟨wr.heap.size, 1, none⟩ = some (.int .i64 x.t) := by simp [go_sem]
      have g2 : (wr.alloc (.cells #[.int .i64 x.f, .int .i64 x.t, .int .i64 x.m] 35)).cell? ⟨wr.heap.size, 2, none⟩ = some (.int .i64 x.m) := by simp [go_sem]
      clear hi hx HF
      by_cases hf : x.f = at_
      · rw [if_pos hf] at HX
        subst hf
        go_wp2
        have FX : Hid (∀ w', Ext (wr.alloc (.cells #[.int .i64 x.f, .int .i64 x.t, .int .i64 x.m] 35)) w' → w'.cell? ⟨wr.heap.size, 1, none⟩ = some (.int .i64 x.t) ∧ w'.cell? ⟨wr.heap.size, 2, none⟩ = some (.int .i64 x.m)) := fun w' h => ⟨h.cell g1, h.cell g2⟩
        refine wp_region_opens Ext (fun w' => Ext (wr.alloc (.cells #[.int .i64 x.f, .int .i64 x.t, .int .i64 x.m] 35)) w') (fun _ => none) (by kernel_rfl) (by kernel_rfl) (ext_up _) (fun i R h => by cases h) (Ext.drew (Ext.refl _)) ?_
        refine wpM_val ?u0 rfl rfl Ext.refl (fun w' hD => ?h0) ?n0
        case h0 =>
          obtain ⟨d1, d2⟩ := FX.out w' hD.1
          go_simp; rfl
        simp only [Act.put, List.setIfInBounds_toArray, List.set_cons_succ, List.set_cons_zero, Nat.reduceAdd]
        refine wpM_val ?u1 rfl rfl Ext.refl (fun w' hD => ?h1) ?n1
        case h1 =>
          obtain ⟨d1, d2⟩ := FX.out w' hD.1
          go_simp; rfl
        simp only [Act.put, List.setIfInBounds_toArray, List.set_cons_succ, List.set_cons_zero, Nat.reduceAdd]
        refine wpM_val ?u2 rfl rfl Ext.refl (fun w' hD => ?h2) ?n2
        case h2 =>
          obtain ⟨d1, d2⟩ := FX.out w' hD.1
          go_simp; rfl
        simp only [Act.put, List.setIfInBounds_toArray, List.set_cons_succ, List.set_cons_zero, Nat.reduceAdd]
        refine wpM_val ?u3 rfl rfl Ext.refl (fun w' hD => ?h3) ?n3
        case h3 =>
          obtain ⟨d1, d2⟩ := FX.out w' hD.1
          go_simp; rfl
        simp only [Act.put, List.setIfInBounds_toArray, List.set_cons_succ, List.set_cons_zero, Nat.reduceAdd]
        refine wpM_val ?u4 rfl rfl Ext.refl (fun w' hD => ?h4) ?n4
        case h4 =>
          obtain ⟨d1, d2⟩ := FX.out w' hD.1
          go_simp; rfl
        simp only [Act.put, List.setIfInBounds_toArray, List.set_cons_succ, List.set_cons_zero, Nat.reduceAdd]
        refine wpM_val ?u5 rfl rfl Ext.refl (fun w' hD => ?h5) ?n5
        case h5 =>
          obtain ⟨d1, d2⟩ := FX.out w' hD.1
          go_simp; rfl
        simp only [Act.put, List.setIfInBounds_toArray, List.set_cons_succ, List.set_cons_zero, Nat.reduceAdd]
        refine wpM_val ?u6 rfl rfl Ext.refl (fun w' hD => ?h6) ?n6
        case h6 =>
          obtain ⟨d1, d2⟩ := FX.out w' hD.1
          go_simp; rfl
        simp only [Act.put, List.setIfInBounds_toArray, List.set_cons_succ, List.set_cons_zero, Nat.reduceAdd]
        refine wpM_val ?u7 rfl rfl Ext.refl (fun w' hD => ?h7) ?n7
        case h7 =>
          obtain ⟨d1, d2⟩ := FX.out w' hD.1
          go_simp; rfl
        simp only [Act.put, List.setIfInBounds_toArray, List.set_cons_succ, List.set_cons_zero, Nat.reduceAdd]
        refine wpM_nil ?_
        intro w9 hw9 hF9
        go_wp2
        go_roundw
        case rel => exact ⟨kk + 1, _, _, by omega, by go_num, rfl, rfl, HX, by omega, by omega, hxr2.trans hw9⟩
        case measure => simp [intOf]; omega
      · rw [if_neg hf] at HX
        go_wp2
        go_ret2
        exact ⟨by rw [← HX.out]; rfl, hx5.trans hxr2⟩
    · have hlt' : ¬ (kk : Int) < (row.length : Int) := by omega
      rw [List.drop_eq_nil_of_le (by omega)] at HF
      by_cases hab : at_ = b
      · have HX : Hid ((s, 0) = F) := by unfold Hid; rw [← HF.out]; simp [alongC, hab]
        clear HF
        subst hab
        go_wp2
        go_ret2
        exact ⟨by rw [← HX.out]; rfl, hx5.trans hxr⟩
      · have HX : Hid ((0, 8) = F) := by unfold Hid; rw [← HF.out]; simp [alongC, hab]
        clear HF
        go_wp2
        go_ret2
        exact ⟨by rw [← HX.out]; rfl, hx5.trans hxr⟩
end Go.Proofs.Ytgnjhaomlbkgcaa
