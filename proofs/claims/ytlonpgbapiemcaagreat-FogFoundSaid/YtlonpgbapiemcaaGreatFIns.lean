/- slices.Insert of one number into a row of one's own: what the kit's shelf says of it, in one contract. -/
import Derived.Shelf.Spec.SlicesInsert
import Derived.Shelf.Spec.SlicesInsertGrow
import Derived.Laws.OwnMore
import Derived.Test.YtlonpgbapiemcaaGreatFMadeR
namespace Go.Proofs.YtlonpgbapiemcaaGreat
open Go Go.RowKit Go.Shelf
set_option linter.unusedVariables false
set_option linter.unusedSimpArgs false

def insRen : Ren where
  f := fun | 21 => 132 | 27 => 197 | 28 => 198 | 35 => 236 | 39 => 151 | n => n
  t := fun | 0 => 0 | 3 => 3 | 4 => 4 | 22 => 37 | n => n
  g := fun n => n
theorem ins_lays : Lays2.n21 Tryz.prog insRen where
  mixed := by kernel_rfl
  f21 := by kernel_rfl
  f27 := by kernel_rfl
  f28 := by kernel_rfl
  f35 := by kernel_rfl
  f39 := by kernel_rfl
  t0 := by kernel_rfl
  a0 := fun w => by kernel_rfl
  z0 := fun w => by kernel_rfl
  v0 := fun w => by kernel_rfl
  t3 := by kernel_rfl
  a3 := fun w => by kernel_rfl
  z3 := fun w => by kernel_rfl
  v3 := fun w => by kernel_rfl
  t4 := by kernel_rfl
  a4 := fun w => by kernel_rfl
  z4 := fun w => by kernel_rfl
  v4 := fun w => by kernel_rfl
  t22 := by kernel_rfl
  a22 := fun w => by kernel_rfl
  z22 := fun w => by kernel_rfl
  v22 := fun w => by kernel_rfl
  i3 := by kernel_rfl

/-- A row may be seen longer, as far as its room goes. -/
theorem own_widen {w : World} {base g n cap : Nat} {e : TypeId} {xs : List Value} (h : w.ownsRow base e 1 (.slice (some ⟨g, 0, none⟩) n cap) n xs) (hr : n + 1 ≤ cap) : ∃ u, w.ownsRow base e 1 (.slice (some ⟨g, 0, none⟩) (n + 1) cap) (n + 1) (xs ++ [u]) := by
  rcases h.2 with ⟨h', _⟩ | ⟨g', cap', cur, h', hb, hg, hnc, hcm, hcs, htake⟩
  · simp at h'
  · simp only [Value.slice.injEq, Option.some.injEq, Addr.mk.injEq, and_true, true_and] at h'
    obtain ⟨rfl, rfl⟩ := h'
    have hlt : n < cur.toList.length := by rw [Array.length_toList, hcs]; omega
    have hl : xs.length = n := by simpa using h.1
    refine ⟨cur.toList[n], ⟨by simp [hl], .inr ⟨g, cap, cur, rfl, hb, hg, hr, hcm, hcs, ?_⟩⟩⟩
    rw [Nat.mul_one] at htake ⊢
    rw [List.take_succ_eq_append_getElem hlt, htake]
theorem own_setCells {base g n cap : Nat} {e : TypeId} : ∀ (vs : List Value) (o : Nat) (w : World) (ys : List Value), w.ownsRow base e 1 (.slice (some ⟨g, 0, none⟩) n cap) n ys → o + vs.length ≤ n →
    (w.setCells g o vs).ownsRow base e 1 (.slice (some ⟨g, 0, none⟩) n cap) n (ys.take o ++ vs ++ ys.drop (o + vs.length)) ∧ BelS (fun k => k = g) w (w.setCells g o vs)
  | [], o, w, ys, h, _ => ⟨by simpa [World.setCells] using h, BelS.refl _ w⟩
  | v :: vs, o, w, ys, h, hl => by
    have hlen : ys.length = n := by simpa using h.1
    simp only [List.length_cons] at hl
    have h1 := (h.stored o v).1
    obtain ⟨h2, h3⟩ := own_setCells vs (o + 1) _ _ h1 (by omega)
    refine ⟨?_, (BelS.setCell (S := fun k => k = g) (BelS.refl _ w) ⟨g, o, none⟩ v rfl).trans h3⟩
    have e1 : (ys.set o v).take (o + 1) = ys.take o ++ [v] := by
      rw [List.take_set, List.take_succ_eq_append_getElem (by omega), List.set_append_right _ _ (by simp; omega)]
      simp [hlen, Nat.min_eq_left (show o ≤ n by omega)]
    have e2 : (ys.set o v).drop (o + 1 + vs.length) = ys.drop (o + (vs.length + 1)) := by
      rw [List.drop_set_of_lt (by omega)]
      congr 1; omega
    rw [e1, e2] at h2
    show ((w.setCell ⟨g, o, none⟩ v).setCells g (o + 1) vs).ownsRow _ _ _ _ _ _
    simpa using h2
def insL (l : List Int) (i : Nat) (x : Int) : List Int := l.take i ++ x :: l.drop i
theorem insL_len {l : List Int} {i : Nat} (x : Int) (h : i ≤ l.length) : (insL l i x).length = l.length + 1 := by
  unfold insL; simp; omega
theorem insL_mem {l : List Int} {i : Nat} {x y : Int} : y ∈ insL l i x ↔ y = x ∨ y ∈ l := by
  unfold insL
  rw [List.mem_append, List.mem_cons]
  constructor
  · rintro (h | h | h)
    · exact .inr (List.mem_of_mem_take h)
    · exact .inl h
    · exact .inr (List.mem_of_mem_drop h)
  · rintro (h | h)
    · exact .inr (.inl h)
    · rw [← List.take_append_drop i l] at h
      rcases List.mem_append.1 h with h | h
      · exact .inl h
      · exact .inr (.inr h)
theorem insL_nodup {l : List Int} {i : Nat} {x : Int} (h : l.Nodup) (hx : x ∉ l) : (insL l i x).Nodup := by
  unfold insL
  have h1 : (l.take i ++ l.drop i).Nodup := by rw [List.take_append_drop]; exact h
  rw [List.nodup_append] at h1 ⊢
  obtain ⟨a, b, c⟩ := h1
  refine ⟨a, List.nodup_cons.2 ⟨fun hm => hx (List.mem_of_mem_drop hm), b⟩, fun y hy z hz => ?_⟩
  rcases List.mem_cons.1 hz with rfl | hz
  · exact fun e => hx (e ▸ List.mem_of_mem_take hy)
  · exact c y hy z hz
theorem insL_map (l : List Int) (i : Nat) (x : Int) : (insL l i x).map (Value.int .i64) = (l.map (Value.int .i64)).take i ++ Value.int .i64 x :: (l.map (Value.int .i64)).drop i := by
  unfold insL
  rw [List.map_append, List.map_cons, List.map_take, List.map_drop]
theorem lst_shift (L : List Value) (u x : Value) {i : Nat} (h : i < L.length) {Y : List Value} (hY : Y = (L ++ [u]).take (i + 1) ++ L.drop i ++ (L ++ [u]).drop (i + 1 + (L.drop i).length)) : Y.take i ++ [x] ++ Y.drop (i + 1) = L.take i ++ x :: L.drop i := by
  have e1 : Y = L.take (i + 1) ++ L.drop i := by
    have e0 : (L ++ [u]).drop (i + 1 + (L.drop i).length) = [] := List.drop_eq_nil_of_le (by simp; omega)
    rw [hY, e0, List.take_append_of_le_length (by omega), List.append_nil]
  have e2 : (L.take (i + 1)).length = i + 1 := by simp; omega
  rw [e1, List.take_append_of_le_length (by omega), List.take_take, Nat.min_eq_left (by omega), List.drop_left' e2]
  simp
theorem lst_grow (L Z : List Value) (x : Value) {i n : Nat} (hL : L.length = n) (h : i < n) (hZ : Z.length = n + 1 - i) {Y : List Value} (hY : Y = (L.take i ++ Z).take i ++ [x] ++ (L.take i ++ Z).drop (i + 1)) :
    Y.take (i + 1) ++ L.drop i ++ Y.drop (i + 1 + (L.drop i).length) = L.take i ++ x :: L.drop i := by
  have e2 : (L.take i).length = i := by simp; omega
  have e3 : (L.take i ++ Z).take i = L.take i := List.take_left' e2
  rw [e3] at hY
  have e4 : (L.take i ++ [x]).length = i + 1 := by simp; omega
  have e5 : Y.length = n + 1 := by rw [hY]; simp; omega
  have e6 : Y.drop (i + 1 + (L.drop i).length) = [] := List.drop_eq_nil_of_le (by rw [e5]; simp; omega)
  rw [e6, hY, List.take_left' e4]
  simp
theorem BelS.drewR {S : Nat → Prop} (w : World) : BelS S w w.drew := (Ext.drew (Ext.refl w)).belS
/-- What Insert leaves. -/
def InsPost (w : World) (B : Nat) (v : Value) (l : List Int) (i : Nat) (x : Int) (e : Ending) (w' : World) : Prop :=
  ∃ A c, e = .returned (.slice A (l.length + 1) c) ∧ w'.ownsRow B 3 1 (.slice A (l.length + 1) c) (l.length + 1) ((insL l i x).map (.int .i64)) ∧ BelS (fun k => v.ownBlock = some k) w w'
theorem insert_any (B : Nat) (A : Option Addr) (cap : Nat) (l : List Int) (i vb : Nat) (x : Int) (w : World) (hown : w.ownsRow B 3 1 (.slice A l.length cap) l.length (l.map (.int .i64))) (hi : i ≤ l.length) (hl : l.length ≤ 1000) (hB : B ≤ w.heap.size)
    (hvb : ∀ a, A = some a → a.block ≠ vb) (hx : w.heap[vb]? = some (.cells #[.int .i64 x] 3 (0, 0))) :
    Calls Tryz.prog 132 #[.slice A l.length cap, .int .i64 (i : Int), .slice (some ⟨vb, 0, none⟩) 1 1] w (InsPost w B (.slice A l.length cap) l i x) := by
  have hx0 : w.cell? ⟨vb, 0, none⟩ = some (.int .i64 x) := by rw [cell_of_row w vb 0 _ _ _ hx]; rfl
  have hvs : ∀ j v, [Value.int .i64 x][j]? = some v → w.cell? ⟨vb, 0 + j, none⟩ = some v := fun j v h => by
    cases j with
    | zero => simp at h; subst h; simpa using hx0
    | succ j => simp at h
  have h1v : ∀ v ∈ [Value.int .i64 x], v.oneCell' = true := fun v h => by simp at h; subst h; rfl
  have h1c := ints_one l
  have hcl : (l.map (Value.int .i64)).length = l.length := by simp
  rcases hown.2 with ⟨h', h0⟩ | ⟨g, cap', cur, h', hbg, hg, hnc, hcm, hcs, htake⟩
  · simp only [Value.slice.injEq] at h'
    obtain ⟨rfl, -, rfl⟩ := h'
    have hl0 : l = [] := List.eq_nil_of_length_eq_zero h0
    subst hl0
    obtain rfl : i = 0 := by simpa using hi
    refine (Any2.slices_Insert_int_end_grow (P := Tryz.prog) ins_lays none 0 0 vb 0 1 1 [] [.int .i64 x] w (by omega) (by omega) (by omega) (by omega) rfl rfl (fun _ => rfl) (fun a h => by cases h) hvs h1v).mono ?_
    rintro e w' ⟨rfl, rfl⟩
    refine ⟨_, _, rfl, ⟨rfl, .inr ⟨w.heap.size, _, _, rfl, hB, heap_alloc_new w.drew _, grownCap_ge _ _ _ _, grownCap_le_maxLen _ _ _ _ (by decide), ?_, ?_⟩⟩, ((Ext.drew (Ext.refl w)).alloc _).belS⟩
    · have := grownCap_ge w 1 0 (insRen.t 3)
      simp only [List.nil_append, Array.size_append, List.size_toArray, List.length_singleton, size_zeroCells]
      show 1 + (grownCap w 1 0 (insRen.t 3) - 1) * 1 = grownCap w 1 0 (insRen.t 3) * 1
      omega
    · simp [insL]
  · simp only [Value.slice.injEq, true_and] at h'
    obtain ⟨rfl, rfl⟩ := h'
    have hvg : vb ≠ g := fun e => hvb _ rfl e.symm
    have hcell := fun j => hown.cellAt j
    have hcs' : ∀ j v, (l.map (Value.int .i64))[j]? = some v → w.cell? ⟨g, 0 + j, none⟩ = some v := fun j v h => by
      have hj := (List.getElem?_eq_some_iff.1 h).1
      rw [Nat.zero_add, hown.cellAt j (by simpa using hj)]
      exact h
    have hfz := fun j => hown.frozenAt j
    have hsp : ∀ j, j < cap → (w.cell? ⟨g, 0 + j, none⟩).isSome = true := fun j hj => by
      rw [Nat.zero_add, cell_of_row w g j cur _ (0, 0) hg, Array.getElem?_eq_getElem (by omega)]; rfl
    by_cases hroom : l.length + 1 ≤ cap
    · have hc63 : cap ≤ 9223372036854775807 := by unfold maxLen at hcm; omega
      obtain ⟨u, hw⟩ := own_widen hown hroom
      by_cases hin : i < l.length
      · refine (Any2.slices_Insert_int_shift (P := Tryz.prog) ins_lays g 0 l.length cap i vb 0 1 1 (l.map (.int .i64)) [.int .i64 x] w hin (by omega) hroom hc63 hvg hcl rfl hcs' (fun j hj => hsp j (by omega)) (fun j _ => by rw [Nat.zero_add]; exact hfz j) hvs h1c h1v
          3 3 1 cur.size (by unfold World.shape?; rw [hx]; rfl) (by unfold World.shape?; rw [hg]) (by omega) (by simp [World.frozen?, hx]) (by simp [World.frozen?, hx])).mono ?_
        rintro e w' ⟨rfl, rfl⟩
        rw [Nat.zero_add, Nat.zero_add]
        have hd := own_below hw (Ext.drew (Ext.refl w))
        obtain ⟨k1, k2⟩ := own_setCells ((l.map (Value.int .i64)).drop i) (i + 1) w.drew _ hd (by simp; omega)
        obtain ⟨k3, k4⟩ := own_setCells [Value.int .i64 x] i _ _ k1 (by simp; omega)
        refine ⟨_, _, rfl, ?_, ((BelS.drewR w).trans (k2.trans k4)).mono fun k _ e => by subst e; rfl⟩
        rw [insL_map]
        have hq := lst_shift (l.map (Value.int .i64)) u (.int .i64 x) (i := i) (by simpa using hin) rfl
        rw [← hq]
        exact k3
      · obtain rfl : i = l.length := by omega
        refine (Any2.slices_Insert_int_end_room (P := Tryz.prog) ins_lays g 0 l.length cap vb 0 1 1 [.int .i64 x] w (by omega) hroom hc63 rfl (fun j hj => by rw [show 0 + l.length + j = 0 + (l.length + j) by omega]; exact hsp _ (by omega)) (fun j hj => hfz _) hvs h1v).mono ?_
        rintro e w' ⟨rfl, rfl⟩
        rw [Nat.zero_add]
        obtain ⟨k1, k2⟩ := own_setCells [Value.int .i64 x] l.length w _ hw (by simp)
        refine ⟨_, _, rfl, ?_, k2.mono fun k _ e => by subst e; rfl⟩
        rw [insL_map, List.take_of_length_le (by simp), List.drop_eq_nil_of_le (by simp)]
        rw [List.take_left' (by simp), List.drop_eq_nil_of_le (by simp), List.append_nil] at k1
        exact k1
    · by_cases hin : i < l.length
      · refine (Any2.slices_Insert_int_grow (P := Tryz.prog) ins_lays g 0 l.length cap i vb 0 1 1 (l.map (.int .i64)) [.int .i64 x] w hin (by omega) hnc (by omega) (by omega) hcl rfl hcs' hvs h1c h1v).mono ?_
        rintro e w' ⟨rfl, rfl⟩
        have hge := grownCap_ge w (l.length + 1) cap (insRen.t 3)
        have hle := grownCap_le_maxLen w (l.length + 1) cap (insRen.t 3) (by unfold maxLen; omega)
        obtain ⟨C, hC⟩ : ∃ C, grownCap w (l.length + 1) cap (insRen.t 3) = C := ⟨_, rfl⟩
        rw [hC] at hge hle ⊢
        have hz1 : (Builtin.zeroCells (Value.int .i64 0).cells (l.length + 1 - i)).toList.length = l.length + 1 - i := by rw [Array.length_toList, size_zeroCells]; show _ * 1 = _; omega
        have hr0 : ∀ W : World, W.heap[w.heap.size]? = some (.cells (((l.map (Value.int .i64)).take i).toArray ++ Builtin.zeroCells (Value.int .i64 0).cells (l.length + 1 - i) ++ Builtin.zeroCells (Value.int .i64 0).cells (C - (l.length + 1))) 3 (0, 0)) →
            W.ownsRow B 3 1 (.slice (some ⟨w.heap.size, 0, none⟩) (l.length + 1) C) (l.length + 1) ((l.map (Value.int .i64)).take i ++ (Builtin.zeroCells (Value.int .i64 0).cells (l.length + 1 - i)).toList) := fun W hW =>
          ⟨by rw [List.length_append, hz1]; simp; omega, .inr ⟨w.heap.size, C, _, rfl, hB, hW, hge, hle, by
            have a : (Value.int .i64 0).cells.size = 1 := rfl
            simp only [Array.size_append, List.size_toArray, size_zeroCells, a, List.length_take, List.length_map]; omega, by
            rw [Array.toList_append, Array.toList_append, List.take_left' (by rw [List.length_append, hz1]; simp; omega)]⟩⟩
        have hd := own_below (hr0 _ (heap_alloc_new w _)) (Ext.drew (Ext.refl _))
        obtain ⟨k1, k2⟩ := own_setCells [Value.int .i64 x] i _ _ hd (by simp; omega)
        have k1' := own_below k1 (Ext.drew (Ext.refl _))
        obtain ⟨k3, k4⟩ := own_setCells ((l.map (Value.int .i64)).drop i) (i + 1) _ _ k1' (by simp; omega)
        refine ⟨_, _, rfl, ?_, ?_⟩
        · rw [insL_map]
          have hq := lst_grow (l.map (Value.int .i64)) (Builtin.zeroCells (Value.int .i64 0).cells (l.length + 1 - i)).toList (.int .i64 x) (i := i) (n := l.length) (by simp) hin hz1 rfl
          rw [← hq]
          exact k3
        · have h5 : BelS (fun k => k = w.heap.size) w _ := ((Ext.alloc (Ext.refl w) _).trans (Ext.drew (Ext.refl _))).belS.trans (k2.trans ((BelS.drewR _).trans k4))
          exact ⟨h5.1, fun k hk _ => h5.2 k hk (by omega)⟩
      · obtain rfl : i = l.length := by omega
        refine (Any2.slices_Insert_int_end_grow (P := Tryz.prog) ins_lays (some ⟨g, 0, none⟩) l.length cap vb 0 1 1 (l.map (.int .i64)) [.int .i64 x] w (by omega) hnc (by omega) (by omega) hcl rfl (fun h => by cases h) (fun a ha j v h => by
          cases ha
          have := hcs' j v h
          rw [Nat.zero_add] at this
          rw [Addr.add_lit, Nat.zero_add]; exact this) hvs h1v).mono ?_
        rintro e w' ⟨rfl, rfl⟩
        refine ⟨_, _, rfl, ⟨by simp [insL], .inr ⟨w.heap.size, _, _, rfl, hB, heap_alloc_new w.drew _, grownCap_ge _ _ _ _, grownCap_le_maxLen _ _ _ _ (by unfold maxLen; omega), ?_, ?_⟩⟩, ((Ext.drew (Ext.refl w)).alloc _).belS⟩
        · have := grownCap_ge w (l.length + 1) cap (insRen.t 3)
          have a : (Value.int .i64 0).cells.size = 1 := rfl
          simp only [Array.size_append, List.size_toArray, size_zeroCells, a, List.length_append, List.length_map, List.length_singleton]
          omega
        · have hq : (insL l l.length x).map (Value.int .i64) = l.map (Value.int .i64) ++ [.int .i64 x] := by unfold insL; simp
          rw [hq, Array.toList_append]
          exact List.take_left' (by simp)
end Go.Proofs.YtlonpgbapiemcaaGreat
