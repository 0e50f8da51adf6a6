/- The walk of fog's rests: how many walks go on from each spot. Printed by my gen_frest.py. -/
import Derived.Test.YtlonpgbapiemcaaGreatFHeard
import Derived.Test.YtlonpgbapiemcaaGreatG2
import Derived.Test.YtlonpgbapiemcaaGreatG1
import Derived.Maps.OwnIn
namespace Go.Proofs.YtlonpgbapiemcaaGreat
open Go Go.RowKit Go.Shelf Go.Maps
set_option linter.unusedVariables false
set_option linter.unusedSimpArgs false
attribute [local go_sem] Oper.semAt_some

/-- The marks that ranges over a function have left among the deferred calls. -/
def Marks (B : Nat) (ds : List Deferred) (W : World) : Prop :=
  ∃ rs : List Nat, ds = rs.map (fun r => { target := .collected r, args := #[] }) ∧ rs.Nodup ∧ ∀ r ∈ rs, B ≤ r ∧ W.heap[r]? = some (.deferred (some []))
theorem Marks.nil (B : Nat) (W : World) : Marks B [] W := ⟨[], rfl, List.nodup_nil, fun r h => by cases h⟩
theorem Marks.bel {B D : Nat} {ds : List Deferred} {W W' : World} (h : Marks B ds W) (hb : Bel D W W') (hD : ∀ x, W.heap[D]? ≠ some (.deferred x)) : Marks B ds W' := by
  obtain ⟨rs, e, hn, hr⟩ := h
  exact ⟨rs, e, hn, fun r hm => ⟨(hr r hm).1, hb.heap (hr r hm).2 (fun e => hD _ (e ▸ (hr r hm).2))⟩⟩
theorem Marks.cons {B D : Nat} {ds : List Deferred} {W0 W : World} (h0 : Marks B ds W0) (hb : Bel D W0 W) (hD : ∀ x, W0.heap[D]? ≠ some (.deferred x)) {r : Nat} (hr : W.heap[r]? = some (.deferred (some []))) (hlt : W0.heap.size ≤ r) (hB : B ≤ W0.heap.size) :
    Marks B ({ target := .collected r, args := #[] } :: ds) W := by
  obtain ⟨rs, e, hn, hh⟩ := h0
  refine ⟨r :: rs, by rw [e]; rfl, List.nodup_cons.2 ⟨fun hm => ?_, hn⟩, fun x hx => ?_⟩
  · have := (Array.getElem?_eq_some_iff.1 (hh r hm).2).1
    omega
  · rcases List.mem_cons.1 hx with rfl | hx
    · exact ⟨by omega, hr⟩
    · exact ⟨(hh x hx).1, hb.heap (hh x hx).2 (fun e => hD _ (e ▸ (hh x hx).2))⟩
theorem leaves_marks {F : Fence} {n : Nat} {P : Program} {fn : Func} {tmps : Array Value} {R : Ending → World → Prop} {B : Nat} {u : FrameMode} (hu : u ≠ .run) : ∀ (ds : List Deferred) (W : World), Marks B ds W →
    (∀ W', Below B W W' → (∀ (k : Nat) (o : Obj), W.heap[k]? = some o → (∀ x, o ≠ .deferred x) → W'.heap[k]? = some o) → LeavesIn F n P fn tmps R [] u W') → LeavesInM F n P fn tmps R ds u W := by
  intro ds
  induction ds with
  | nil => exact fun W _ h => h W (Below.refl _ _) (fun _ _ h _ => h)
  | cons d ds ih =>
    intro W hM h
    obtain ⟨rs, e, hn, hr⟩ := hM
    cases rs with
    | nil => cases e
    | cons r rs =>
      simp only [List.map_cons, List.cons.injEq] at e
      obtain ⟨rfl, e2⟩ := e
      have hK := (hr r (by simp)).2
      have hBr := (hr r (by simp)).1
      refine ⟨hu, .inl ⟨_, _, rfl, run_takeDeferred hK, ?_⟩⟩
      refine ih _ ⟨rs, e2, (List.nodup_cons.1 hn).2, fun x hx => ⟨(hr x (by simp [hx])).1, ?_⟩⟩ fun W' hb hc => h W' ?_ ?_
      · rw [World.putObj_heap_other (fun e => (List.nodup_cons.1 hn).1 (by rw [← e]; exact hx))]
        exact (hr x (by simp [hx])).2
      · exact ((Below.refl B W).grown (grownBy_putObj' W r (.deferred none)) (by have := (Array.getElem?_eq_some_iff.1 hK).1; omega) (fun k e => by cases e; omega)).trans hb
      · intro k o hk ho
        refine hc k o ?_ ho
        rw [World.putObj_heap_other (fun e => by rw [← e, hk] at hK; cases hK; exact ho _ rfl)]
        exact hk
theorem cel_b {B D : Nat} (W : World) (l : Nat) (o o' : Obj) (_ : B ≤ l) (h : W.heap[l]? = some o) (ho : o.isCells = false) (_ : o.isWalk = false) : Cel D W (W.putObj l o') :=
  ⟨(grownBy_putObj' W l o').size, fun _ _ _ hp => cell_kept hp (grownBy_putObj' W l o') (fun r e => by cases e; exact ⟨o, h, ho⟩)⟩
theorem own_bel {β : Type} {D B : Nat} {w0 : World} (hB : w0.heap.size ≤ B) : OwnFrom B (fun (_ : β) W => Bel D w0 W) := fun _ X Y row hs hg hr =>
  ⟨hs.1.grown hg (Nat.zero_le _) (fun _ _ => Nat.zero_le _), fun k hk hD => (hg.block k (Nat.lt_of_lt_of_le hk hs.size) (fun e => by have := (hr k e.symm).1; omega)).trans (hs.2 k hk hD)⟩
theorem own_mapsp {β : Type} {B M : Nat} (hM : M < B) (n : β → Nat) (v : β → Nat → Nat → Int) : OwnFrom B (fun s W => MapSp W M (n s) (v s)) := fun s X Y row hs hg hrow =>
  hs.kept hg (fun e => by have := (hrow M e.symm).1; omega)
theorem MapSp.nodef {w : World} {M n : Nat} {v : Nat → Nat → Int} (h : MapSp w M n v) : ∀ x, w.heap[M]? ≠ some (.deferred x) := fun x e => by
  obtain ⟨D, ⟨es, cl, hb, _⟩, _⟩ := h
  rw [hb] at e; cases e

theorem MapSp.undef {w w' : World} {M n : Nat} {v : Nat → Nat → Int} (h : MapSp w M n v) (hc : ∀ (k : Nat) (o : Obj), w.heap[k]? = some o → (∀ x, o ≠ .deferred x) → w'.heap[k]? = some o) : MapSp w' M n v := by
  obtain ⟨D, ⟨es, cl, hb, F, hs, hD⟩, h2⟩ := h
  exact ⟨D, ⟨es, cl, hc _ _ hb (fun x e => by cases e), F, hs, hD⟩, h2⟩

/-! ### What the map holds on the way -/
/-- So many minutes are done, and so many places of the next one. -/
def restV (g : Mat) (f : Fg) (c : Ct) (sel : Int → Bool) (n0 p0 m p : Nat) : Int :=
  if p < f.pl.toNat ∧ m ≤ f.mi.toNat ∧ (f.mi.toNat < m + n0 ∨ (f.mi.toNat = m + n0 ∧ p < p0)) then restM g f c sel m p else 0
section
variable {g : Mat} {f : Fg} {c : Ct} {sel : Int → Bool}
theorem restV_start : (fun _ _ => 0 : Nat → Nat → Int) = restV g f c sel 0 0 := by
  funext m p
  unfold restV
  rw [if_neg (by omega)]
theorem restV_row (n0 : Nat) {p0 : Nat} (h : f.pl.toNat ≤ p0) : restV g f c sel n0 p0 = restV g f c sel (n0 + 1) 0 := by
  funext m p
  unfold restV
  by_cases e : p < f.pl.toNat
  · exact ite_iff (by omega) _ _
  · rw [if_neg (by omega), if_neg (by omega)]
theorem restV_done {n0 p0 m p : Nat} (hp : p < f.pl.toNat) (hm : m ≤ f.mi.toNat) (h : f.mi.toNat < m + n0) : restV g f c sel n0 p0 m p = restM g f c sel m p := by
  unfold restV; rw [if_pos ⟨hp, hm, .inl h⟩]
theorem restV_now {n0 p0 m : Nat} (h : f.mi.toNat = m + n0) : restV g f c sel n0 p0 m p0 = 0 := by
  unfold restV; rw [if_neg (by omega)]
theorem restV_next {n0 p0 m : Nat} (h : f.mi.toNat = m + n0) (hp : p0 < f.pl.toNat) : updS (restV g f c sel n0 p0) m p0 (restM g f c sel m p0) = restV g f c sel n0 (p0 + 1) := by
  funext a b
  unfold updS restV
  by_cases e : a = m ∧ b = p0
  · obtain ⟨rfl, rfl⟩ := e
    rw [if_pos ⟨rfl, rfl⟩, if_pos (by omega)]
  · rw [if_neg e]
    exact ite_iff (by omega) _ _
theorem updS_same {v : Nat → Nat → Int} {m p : Nat} {x : Int} (h : v m p = x) : updS v m p x = v := by
  funext a b
  unfold updS
  split
  · rename_i e; obtain ⟨rfl, rfl⟩ := e; exact h.symm
  · rfl
theorem updS_twice (v : Nat → Nat → Int) (m p : Nat) (x y : Int) : updS (updS v m p x) m p y = updS v m p y := by
  funext a b
  unfold updS
  split <;> rfl
theorem updS_at (v : Nat → Nat → Int) (m p : Nat) (x : Int) : updS v m p x m p = x := by unfold updS; rw [if_pos ⟨rfl, rfl⟩]
theorem updS_ne (v : Nat → Nat → Int) {m p a b : Nat} (x : Int) (h : a ≠ m) : updS v m p x a b = v a b := by unfold updS; rw [if_neg (fun e => h e.1)]
end

/-- A box that holds a number. -/
def Box8 (W : World) (B : Nat) (x : Int) : Prop := W.heap[B]? = some (.cells #[.int .i64 x] 3 (0, 0))
theorem Box8.cell {W : World} {B : Nat} {x : Int} (h : Box8 W B x) : W.cell? ⟨B, 0, none⟩ = some (.int .i64 x) := by
  unfold Box8 at h
  rw [cell_of_row W B 0 _ _ _ h]; rfl
theorem Box8.frozen {W : World} {B : Nat} {x : Int} (h : Box8 W B x) : W.frozen? ⟨B, 0, none⟩ = false := by
  unfold Box8 at h
  simp [World.frozen?, h]
theorem Box8.bel {D : Nat} {W W' : World} {B : Nat} {x : Int} (h : Box8 W B x) (hb : Bel D W W') (hn : B ≠ D) : Box8 W' B x := hb.heap h hn
theorem Box8.ext {W W' : World} {B : Nat} {x : Int} (h : Box8 W B x) (hx : Ext W W') : Box8 W' B x := (Below.block hx B (Array.getElem?_eq_some_iff.1 h).1).trans h
def boxInt (W : World) : Value → Int
  | .pointer (some p) => match W.cell? p with
    | some u => intOf u
    | none => 0
  | _ => 0
theorem Box8.int {W : World} {B : Nat} {x : Int} (h : Box8 W B x) : boxInt W (.pointer (some ⟨B, 0, none⟩)) = x := by
  unfold boxInt
  simp only [h.cell]; rfl

def RestI (w W1 : World) (D T : Nat) (cv fv : Value) (g : Mat) (f : Fg) (c : Ct) (sel : Int → Bool) (act : Act) (W : World) : Prop := ∃ (n0 B8 : Nat) (y9 y10 y11 y12 y13 y14 y15 y16 y17 y18 y19 y20 y21 y22 y23 y24 y25 y26 y27 y28 y29 y30 y31 y32 y33 y34 y35 y36 y37 y38 y39 y40 y41 y42 y43 y44 y45 y46 y47 y48 y49 y50 y51 y52 y53 y54 y55 y56 y57 y58 y59 y60 y61 y62 y63 y64 y65 y66 y67 y68 y69 y70 y71 : Value) (ds : List Deferred), act = { tmps := (List.toArray ((.pointer (some ⟨D, 0, none⟩)) :: (cv) :: (fv) :: (undef) :: (.pointer (some ⟨w.heap.size, 0, none⟩)) :: (.pointer (some ⟨w.heap.size + 1, 0, none⟩)) :: (.map none) :: (.pointer (some ⟨w.heap.size + 1 + 1 + 1, 0, none⟩)) :: (.pointer (some ⟨B8, 0, none⟩)) :: y9 :: y10 :: y11 :: y12 :: y13 :: y14 :: y15 :: y16 :: y17 :: y18 :: y19 :: y20 :: y21 :: y22 :: y23 :: y24 :: y25 :: y26 :: y27 :: y28 :: y29 :: y30 :: y31 :: y32 :: y33 :: y34 :: y35 :: y36 :: y37 :: y38 :: y39 :: y40 :: y41 :: y42 :: y43 :: y44 :: y45 :: y46 :: y47 :: y48 :: y49 :: y50 :: y51 :: y52 :: y53 :: y54 :: y55 :: y56 :: y57 :: y58 :: y59 :: y60 :: y61 :: y62 :: y63 :: y64 :: y65 :: y66 :: y67 :: y68 :: y69 :: y70 :: y71 :: [])), defers := ds } ∧ n0 ≤ T + 1 ∧ W1.heap.size ≤ B8 ∧ Box8 W B8 ((T : Int) - (n0 : Int)) ∧ MapSp W (w.heap.size + 1 + 1) (n0 * 200) (restV g f c sel n0 0) ∧ Bel (w.heap.size + 1 + 1) W1 W ∧ Marks w.heap.size ds W

set_option maxRecDepth 100000 in
set_option maxHeartbeats 4000000 in
theorem rests_any (D : Nat) (s : Ads) (f : Fg) (g : Mat) (c : Ct) (cv fv : Value) (sel : Int → Bool) (w : World) (hd : Dk w D s f g) (hr : FRows w s f) (hok : FogOK f) (hcm : c ∈ f.ct) (hc : CtR w cv c) (hfv : FnP Tryz.prog fv w IntR anyx sel) :
    Calls Tryz.prog 154 #[.pointer (some ⟨D, 0, none⟩), cv, .agg #[fv]] w fun e w' => ∃ M, e = .returned (.map (some M)) ∧ Ext w w' ∧ w.heap.size ≤ M ∧ MapSp w' M 100000 (restV g f c sel (f.mi.toNat + 1) 0) := by
  have hc0 := hc
  have hfv0 := hfv
  obtain ⟨A1, c1, A2, c2, rfl, hS, hR, hk1, hk2⟩ := hc
  obtain ⟨fg, fst, lb, rfl, eg, hcall⟩ := hfv
  clear hcall
  have HOK := hid hok
  have hDw := hd.lt
  have e0 := hd.pl
  have e1 := hd.mi
  have hpl := hok.pl
  have hmi := hok.mi
  obtain ⟨P, hP⟩ : ∃ P : Nat, f.pl = P := ⟨f.pl.toNat, by omega⟩
  obtain ⟨T, hT⟩ : ∃ T : Nat, f.mi = T := ⟨f.mi.toNat, by omega⟩
  rw [hP] at e0 hpl
  rw [hT] at e1 hmi
  have HP : Hid (f.pl = P ∧ f.pl.toNat = P) := ⟨hP, by omega⟩
  have HT : Hid (f.mi = T ∧ f.mi.toNat = T) := ⟨hT, by omega⟩
  clear hP hT hok
  have hmm := @run_makeMap Tryz.prog
  refine callsIn_wide (n := 9).1 ?_
  refine callsIn_of_wp_marks Tryz.func154 rfl trivial ?_ rfl
  simp only [Tryz.ntmps154, List.size_toArray, List.length_cons, List.length_nil, Nat.reduceAdd, Nat.reduceSub, Array.replicate_succ, Array.replicate_zero, List.push_toArray, List.append_toArray, List.nil_append, List.cons_append]
  have k0 : ∀ o1 o2 o3 o4, ((((w.alloc o1).alloc o2).alloc o3).alloc o4).cell? ⟨D, 1, none⟩ = some (.int .i64 (T : Int)) := fun o1 o2 o3 o4 => (((((Ext.refl w).alloc o1).alloc o2).alloc o3).alloc o4).cell e1
  gi_wp2
  have hsz0 : w.heap.size + 1 + 1 + 1 + 1 = (((((w.alloc (.cells #[.slice A1 c.st.length c1, .slice A2 c.rp.length c2] 63)).alloc (.cells #[.func (.func fg) fst lb] 128)).alloc (.map #[] 0)).alloc (.cells #[.map (some (w.heap.size + 1 + 1))] 202)).heap.size) := by simp
  obtain ⟨W1, hW1⟩ : ∃ W1, ((((w.alloc (.cells #[.slice A1 c.st.length c1, .slice A2 c.rp.length c2] 63)).alloc (.cells #[.func (.func fg) fst lb] 128)).alloc (.map #[] 0)).alloc (.cells #[.map (some (w.heap.size + 1 + 1))] 202)) = W1 := ⟨_, rfl⟩
  have hX1 : Ext w W1 := by rw [← hW1]; exact ((((Ext.refl w).alloc _).alloc _).alloc _).alloc _
  have hz1 : W1.heap.size = w.heap.size + 1 + 1 + 1 + 1 := by rw [← hW1]; exact hsz0.symm
  have hM1 : MapSp W1 (w.heap.size + 1 + 1) 0 (restV g f c sel 0 0) := by
    rw [← hW1, ← restV_start]
    have h := MapSp.start ((w.alloc (.cells #[.slice A1 c.st.length c1, .slice A2 c.rp.length c2] 63)).alloc (.cells #[.func (.func fg) fst lb] 128))
    simp only [World.size_alloc] at h
    exact h.ext (Ext.alloc (Ext.refl _) _)
  have FX1 : Hid (∀ w', Bel (w.heap.size + 1 + 1) W1 w' → w'.cell? ⟨w.heap.size, 0, none⟩ = some (.slice A1 c.st.length c1) ∧ w'.cell? ⟨w.heap.size, 1, none⟩ = some (.slice A2 c.rp.length c2) ∧ w'.cell? ⟨w.heap.size + 1, 0, none⟩ = some (.func (.func fg) fst lb) ∧ w'.cell? ⟨w.heap.size + 1 + 1 + 1, 0, none⟩ = some (.map (some (w.heap.size + 1 + 1))) ∧
      w'.cell? ⟨D, 0, none⟩ = some (.int .i64 (P : Int)) ∧ w'.cell? ⟨D, 1, none⟩ = some (.int .i64 (T : Int)) ∧ Ext w w') := fun w' h =>
    ⟨h.cell (by rw [← hW1]; simp [go_sem]) (by simp; omega), h.cell (by rw [← hW1]; simp [go_sem]) (by simp; omega), h.cell (by rw [← hW1]; simp [go_sem]) (by simp), h.cell (by rw [← hW1]; simp [go_sem]) (by simp), h.cell (hX1.cell e0) (by simp; omega), h.cell (hX1.cell e1) (by simp; omega), hX1.then_bel (by omega) h⟩
  try rw [hW1]
  rw [← hz1]
  clear hW1 hsz0 e0 e1 k0
  refine wpIn_loop (RestI w W1 D T (.agg #[.slice A1 c.st.length c1, .slice A2 c.rp.length c2]) (.agg #[.func (.func fg) fst lb]) g f c sel) (fun act W => (boxInt W (act.tmps.getD 8 undef) + 1).toNat) ?h0 ?hr
  case h0 =>
    refine ⟨0, W1.heap.size, _, _, _, _, _, _, _, _, _, _, _, _, _, _, _, _, _, _, _, _, _, _, _, _, _, _, _, _, _, _, _, _, _, _, _, _, _, _, _, _, _, _, _, _, _, _, _, _, _, _, _, _, _, _, _, _, _, _, _, _, _, _, _, [], rfl, Nat.zero_le _, Nat.le_refl _, ?_, hM1.ext (Ext.alloc (Ext.refl _) _), (Ext.alloc (Ext.refl _) _).bel, Marks.nil _ _⟩
    have := World.alloc_heap_new W1 (.cells #[.int .i64 (T : Int)] 3)
    unfold Box8
    rw [this]; simp
  case hr =>
    rintro _ W ⟨n0, B8, y9, y10, y11, y12, y13, y14, y15, y16, y17, y18, y19, y20, y21, y22, y23, y24, y25, y26, y27, y28, y29, y30, y31, y32, y33, y34, y35, y36, y37, y38, y39, y40, y41, y42, y43, y44, y45, y46, y47, y48, y49, y50, y51, y52, y53, y54, y55, y56, y57, y58, y59, y60, y61, y62, y63, y64, y65, y66, y67, y68, y69, y70, y71, ds, rfl, hn0, hB8, hbx, hM, hbl, hmk⟩
    dsimp only
    obtain ⟨x0, x1, x2, x3, x4, x5, x6⟩ := FX1.out W hbl
    have HBX := hid hbx
    have q8 := hbx.cell
    by_cases hlt : n0 ≤ T
    · obtain ⟨m, hm⟩ : ∃ m : Nat, T = m + n0 := ⟨T - n0, by omega⟩
      have hmv : (T : Int) - (n0 : Int) = (m : Int) := by omega
      rw [hmv] at q8
      have hm8 : m ≤ 8 := by omega
      have hge : (0 : Int) ≤ (m : Int) := by omega
      have HM := hid hm
      clear hm
      gi_wp2
      refine wpIn_loop (fun act V => ∃ (p0 : Nat) (y9 y10 y11 y12 y13 y14 y15 y16 y17 y18 y19 y20 y21 y22 y23 y24 y25 y26 y27 y30 y31 y32 y33 y34 y35 y36 y37 y38 y39 y40 y41 y42 y43 y44 y45 y46 y47 y48 y49 y50 y51 y52 y53 y54 y55 y56 y57 y58 y59 y60 y61 y62 y63 y64 y65 y66 y67 y68 y69 y70 y71 : Value) (ds : List Deferred), act = { tmps := (List.toArray ((.pointer (some ⟨D, 0, none⟩)) :: (.agg #[.slice A1 c.st.length c1, .slice A2 c.rp.length c2]) :: (.agg #[.func (.func fg) fst lb]) :: (undef) :: (.pointer (some ⟨w.heap.size, 0, none⟩)) :: (.pointer (some ⟨w.heap.size + 1, 0, none⟩)) :: (.map none) :: (.pointer (some ⟨w.heap.size + 1 + 1 + 1, 0, none⟩)) :: (.pointer (some ⟨B8, 0, none⟩)) :: y9 :: y10 :: y11 :: y12 :: y13 :: y14 :: y15 :: y16 :: y17 :: y18 :: y19 :: y20 :: y21 :: y22 :: y23 :: y24 :: y25 :: y26 :: y27 :: (.int .i64 (P : Int)) :: (.int .i64 (p0 : Int)) :: y30 :: y31 :: y32 :: y33 :: y34 :: y35 :: y36 :: y37 :: y38 :: y39 :: y40 :: y41 :: y42 :: y43 :: y44 :: y45 :: y46 :: y47 :: y48 :: y49 :: y50 :: y51 :: y52 :: y53 :: y54 :: y55 :: y56 :: y57 :: y58 :: y59 :: y60 :: y61 :: y62 :: y63 :: y64 :: y65 :: y66 :: y67 :: y68 :: y69 :: y70 :: y71 :: [])), defers := ds } ∧ p0 ≤ P ∧ MapSp V (w.heap.size + 1 + 1) (n0 * 200 + p0 * 20) (restV g f c sel n0 p0) ∧ Bel (w.heap.size + 1 + 1) W V ∧ Marks w.heap.size ds V) (fun act _ => P - (intOf (act.tmps.getD 29 undef)).toNat) ?h0 ?hr
      case h0 => exact ⟨0, _, _, _, _, _, _, _, _, _, _, _, _, _, _, _, _, _, _, _, _, _, _, _, _, _, _, _, _, _, _, _, _, _, _, _, _, _, _, _, _, _, _, _, _, _, _, _, _, _, _, _, _, _, _, _, _, _, _, _, _, _, ds, rfl, Nat.zero_le _, by simpa using hM, Bel.refl _ _, hmk⟩
      case hr =>
        clear hM hmk
        rintro _ V ⟨p0, y9, y10, y11, y12, y13, y14, y15, y16, y17, y18, y19, y20, y21, y22, y23, y24, y25, y26, y27, y30, y31, y32, y33, y34, y35, y36, y37, y38, y39, y40, y41, y42, y43, y44, y45, y46, y47, y48, y49, y50, y51, y52, y53, y54, y55, y56, y57, y58, y59, y60, y61, y62, y63, y64, y65, y66, y67, y68, y69, y70, y71, ds, rfl, hp0, hM, hbV, hmk⟩
        dsimp only
        have hbV1 := hbl.trans hbV
        have hb8 := HBX.out.bel hbV (by omega)
        have v8 := hb8.cell
        rw [hmv] at v8
        obtain ⟨z0, z1, z2, z3, z4, z5, z6⟩ := FX1.out V hbV1
        have hMlt := hM.lt
        by_cases hltp : p0 < P
        · have hltp' : (p0 : Int) < (P : Int) := by omega
          have hp8 : p0 < 8 := by omega
          have hVa := fun o => (Ext.alloc (Ext.refl V) o)
          have u0 := fun o => (hVa o).cell z0
          have u1 := fun o => (hVa o).cell z1
          have u2 := fun o => (hVa o).cell z2
          gi_wp2_with fail
          obtain ⟨W3, hW3⟩ : ∃ W3, V.alloc (.cells #[.int .i64 (m : Int), .int .i64 (p0 : Int)] 205) = W3 := ⟨_, rfl⟩
          obtain ⟨S, hSz⟩ : ∃ S, V.heap.size = S := ⟨_, rfl⟩
          have hx3 : Ext V W3 := by rw [← hW3]; exact hVa _
          have s0 : W3.cell? ⟨S, 0, none⟩ = some (.int .i64 (m : Int)) := by rw [← hW3, ← hSz]; simp [go_sem]
          have s1 : W3.cell? ⟨S, 1, none⟩ = some (.int .i64 (p0 : Int)) := by rw [← hW3, ← hSz]; simp [go_sem]
          have hS3 : S < W3.heap.size := by rw [← hW3, ← hSz]; simp
          have hwx3 := z6.trans hx3
          refine ⟨trivial, (callsIn_wide.2 (agrees_any D s f g c (.agg #[.slice A1 c.st.length c1, .slice A2 c.rp.length c2]) (.func (.func fg) fst lb) sel m p0 _ (hd.ext (by rw [hW3]; exact hwx3)) (hr.ext (by rw [hW3]; exact hwx3)) HOK.out hcm (hc0.ext (by rw [hW3]; exact hwx3)) (hfv0.ext (by rw [hW3]; exact hwx3)) hp8)).mono ?_⟩
          rintro e W4 ⟨rfl, hb4⟩
          rw [hW3] at hb4
          have hx4 := hx3.trans hb4
          have hb4V : Bel (w.heap.size + 1 + 1) W1 W4 := hbV1.trans hx4.bel
          have hM4 := hM.ext hx4
          have hmk4 := hmk.bel (hx4.bel (D := w.heap.size + 1 + 1)) hM.nodef
          have hbV4 := hbV.trans (hx4.bel (D := w.heap.size + 1 + 1))
          have t8 := hx4.cell v8
          have t10 := hb4.cell s0
          have t11 := hb4.cell s1
          obtain ⟨a0, a1, a2, a3, a4, a5, a6⟩ := FX1.out W4 hb4V
          have hS4 : S < W4.heap.size := by have := hb4.size; omega
          cases hag : agC g f c sel m p0
          · have hv : restV g f c sel n0 (p0 + 1) = restV g f c sel n0 p0 := by
              rw [← restV_next (by rw [HT.out.2]; exact HM.out) (by rw [HP.out.2]; exact hltp)]
              refine updS_same ?_
              rw [restV_now (by rw [HT.out.2]; exact HM.out), rest_cont (by rw [HT.out.2]; have := HM.out; omega), hag]
              rfl
            have hM5 : MapSp W4 (w.heap.size + 1 + 1) (n0 * 200 + (p0 + 1) * 20) (restV g f c sel n0 (p0 + 1)) := by rw [hv]; exact hM4.mono (by omega)
            gi_wp2
            refine ⟨⟨p0 + 1, _, _, _, _, _, _, _, _, _, _, _, _, _, _, _, _, _, _, _, _, _, _, _, _, _, _, _, _, _, _, _, _, _, _, _, _, _, _, _, _, _, _, _, _, _, _, _, _, _, _, _, _, _, _, _, _, _, _, _, _, _, ds, rfl, by omega, hM5, hbV4, hmk4⟩, ?_⟩
            simp [intOf]; omega
          · by_cases hn00 : n0 = 0
            · have hmT : m = T := by have := HM.out; omega
              have heq : ((m : Int) == (T : Int)) = true := by simp [hmT]
              have hrm : restM g f c sel m p0 = 1 := by
                rw [hmT, ← HT.out.2, restM_end]
                rw [hmT, ← HT.out.2] at hag
                rw [hag]; rfl
              have hvn : updS (restV g f c sel n0 p0) m p0 1 = restV g f c sel n0 (p0 + 1) := by
                rw [← hrm]; exact restV_next (by rw [HT.out.2]; exact HM.out) (by rw [HP.out.2]; exact hltp)
              clear hmT hrm
              gi_wp2
              refine wpIn_wide.2 ?_
              go_quiet (fail)
              obtain ⟨W5, hW5⟩ : ∃ W5, W4.drewN nq = W5 := ⟨_, rfl⟩
              have hx5 : Ext W4 W5 := by rw [← hW5]; exact Ext.drewN (Ext.refl _) _
              have g8 := hx5.cell t8
              have g10 := hx5.cell t10
              have g11 := hx5.cell t11
              have g3 := hx5.cell a3
              have hbV5 := hbV4.trans (hx5.bel (D := w.heap.size + 1 + 1))
              have hmk5 := hmk4.bel (hx5.bel (D := w.heap.size + 1 + 1)) hM4.nodef
              have hM5 := hM4.ext hx5
              rw [hW5]
              clear hW5
              obtain ⟨W6, hrun6, hM6, hg6⟩ := hM5.put (m := m) (p := p0) (by omega) (by omega) (by unfold maxLen; omega) (x := 1) (by decide)
              unfold spotV at hrun6
              have hb56 : Bel (w.heap.size + 1 + 1) W5 W6 := ⟨(Below.refl 0 W5).grown hg6 (Nat.zero_le _) (fun _ _ => Nat.zero_le _), fun k hk hD => hg6.block k hk (fun e => hD (by cases e; rfl))⟩
              have hM7 : MapSp W6 (w.heap.size + 1 + 1) (n0 * 200 + (p0 + 1) * 20) (restV g f c sel n0 (p0 + 1)) := by rw [← hvn]; exact hM6.mono (by omega)
              have hmk6 := hmk5.bel hb56 hM5.nodef
              have hbV6 := hbV5.trans hb56
              gi_wp2
              refine ⟨⟨p0 + 1, _, _, _, _, _, _, _, _, _, _, _, _, _, _, _, _, _, _, _, _, _, _, _, _, _, _, _, _, _, _, _, _, _, _, _, _, _, _, _, _, _, _, _, _, _, _, _, _, _, _, _, _, _, _, _, _, _, _, _, _, _, ds, rfl, by omega, hM7, hbV6, hmk6⟩, ?_⟩
              simp [intOf]; omega
            · have hne : ((m : Int) == (T : Int)) = false := by have := HM.out; simp; omega
              gi_wp2
              refine wpIn_wide.2 ?_
              go_quiet (fail)
              obtain ⟨W5, hW5⟩ : ∃ W5, W4.drewN nq = W5 := ⟨_, rfl⟩
              have hx5 : Ext W4 W5 := by rw [← hW5]; exact Ext.drewN (Ext.refl _) _
              have hd5 := (hd.ext a6).ext hx5
              have g8 := hx5.cell t8
              have g10 := hx5.cell t10
              have g11 := hx5.cell t11
              have g3 := hx5.cell a3
              have hbV5 := hbV4.trans (hx5.bel (D := w.heap.size + 1 + 1))
              have hmk5 := hmk4.bel (hx5.bel (D := w.heap.size + 1 + 1)) hM4.nodef
              have hM5 := hM4.ext hx5
              have hz5 := hx5.size
              rw [hW5]
              clear hW5
              gi_wp2_with fail
              refine ⟨trivial, (callsIn_wide.2 (next_any D p0 _)).mono ?_⟩
              rintro e w6 ⟨rfl, rfl⟩
              obtain ⟨W6, hW6⟩ : ∃ W6, (W5.alloc (.cells #[.pointer (some ⟨D, 0, none⟩)] 101)).alloc (.cells #[.int .i64 (p0 : Int)] 3) = W6 := ⟨_, rfl⟩
              have hx6 : Ext W5 W6 := by rw [← hW6]; exact ((Ext.refl _).alloc _).alloc _
              have kd : W6.cell? ⟨W5.heap.size, 0, none⟩ = some (.pointer (some ⟨D, 0, none⟩)) := by rw [← hW6]; simp [go_sem]
              have kp : W6.cell? ⟨W5.heap.size + 1, 0, none⟩ = some (.int .i64 (p0 : Int)) := by rw [← hW6]; simp [go_sem]
              have hz6 := hx6.size
              rw [hW6]
              clear hW6
              have hd6 := hd5.ext hx6
              have hM6 := hM5.ext hx6
              have hb6 := hbV5.trans (hx6.bel (D := w.heap.size + 1 + 1))
              have hmk6 := hmk5.bel (hx6.bel (D := w.heap.size + 1 + 1)) hM5.nodef
              have f8 := hx6.cell g8
              have f10 := hx6.cell g10
              have f11 := hx6.cell g11
              have f3 := hx6.cell g3
              clear g8 g10 g11 g3
              have hLN8 : (nxt g f.pl.toNat p0).length ≤ 8 := Nat.le_trans (nxt_len g _ p0) (by rw [HP.out.2]; omega)
              gi_wp2
              refine wpIn_rangeFunc_ownH (F := Fence.wide) (n := 9) rfl (by omega) (gf := 235) (lb := #[.pointer (some ⟨W5.heap.size, 0, none⟩), .pointer (some ⟨W5.heap.size + 1, 0, none⟩)]) rfl trivial (enters_of Tryz.func235 (by kernel_rfl) rfl)
                (next_stops _ D W5.heap.size (W5.heap.size + 1) (w.heap.size + 1 + 1) f g p0 s W6 (by rw [HP.out.1]; omega) hp8 (by omega) (by omega) (by omega) hd6 kd kp) Cel.trans cel_b (Below.refl _ _) (fun _ => rfl)
                (fun pre W' => MapSp W' (w.heap.size + 1 + 1) (n0 * 200 + p0 * 20 + 2 * pre.length) (updS (restV g f c sel n0 p0) m p0 ((pre.map fun x => restM g f c sel (m + 1) x.1).sum)) ∧ Bel (w.heap.size + 1 + 1) W6 W') (fun _ _ _ => False)
                (OwnFrom.and (own_mapsp hM6.lt (fun pre : List (NP (nxt g f.pl.toNat p0)) => n0 * 200 + p0 * 20 + 2 * pre.length) (fun pre : List (NP (nxt g f.pl.toNat p0)) => updS (restV g f c sel n0 p0) m p0 ((pre.map fun x => restM g f c sel (m + 1) x.1).sum))) (own_bel (Nat.le_refl _))) (fun _ _ _ _ _ hs _ _ => hs) ⟨by rw [show updS (restV g f c sel n0 p0) m p0 (([] : List (NP (nxt g f.pl.toNat p0))).map fun x : NP (nxt g f.pl.toNat p0) => restM g f c sel (m + 1) x.1).sum = restV g f c sel n0 p0 from updS_same (restV_now (by rw [HT.out.2]; exact HM.out))]; exact hM6, Bel.refl _ _⟩
                (fun x a' W' => a' = { tmps := (List.toArray ((.pointer (some ⟨D, 0, none⟩)) :: (.agg #[.slice A1 c.st.length c1, .slice A2 c.rp.length c2]) :: (.agg #[.func (.func fg) fst lb]) :: (undef) :: (.pointer (some ⟨w.heap.size, 0, none⟩)) :: (.pointer (some ⟨w.heap.size + 1, 0, none⟩)) :: (.map none) :: (.pointer (some ⟨w.heap.size + 1 + 1 + 1, 0, none⟩)) :: (.pointer (some ⟨B8, 0, none⟩)) :: (.int .i64 (p0 : Int)) :: (.pointer (some ⟨S, 0, none⟩)) :: (.int .i64 (x.1 : Int)) :: y12 :: y13 :: y14 :: y15 :: y16 :: y17 :: y18 :: y19 :: y20 :: y21 :: y22 :: y23 :: y24 :: y25 :: y26 :: y27 :: (.int .i64 (P : Int)) :: (.int .i64 (p0 : Int)) :: (.bool true) :: (.int .i64 (p0 : Int)) :: (.int .i64 (m : Int)) :: (.int .i64 (p0 : Int)) :: (.agg #[.int .i64 (m : Int), .int .i64 (p0 : Int)]) :: (.pointer (some ⟨D, 0, none⟩)) :: (.int .i64 (p0 : Int)) :: (.func (.func 235) #[] #[.pointer (some ⟨W5.heap.size, 0, none⟩), .pointer (some ⟨W5.heap.size + 1, 0, none⟩)]) :: (.int .i64 (x.1 : Int)) :: y39 :: y40 :: y41 :: y42 :: y43 :: y44 :: y45 :: y46 :: y47 :: y48 :: y49 :: y50 :: (.bool false) :: (.pointer (some ⟨D, 0, none⟩)) :: (.agg #[.slice A1 c.st.length c1, .slice A2 c.rp.length c2]) :: (.agg #[.func (.func fg) fst lb]) :: (.agg #[.int .i64 (m : Int), .int .i64 (p0 : Int)]) :: (.bool true) :: (.bool false) :: (.bool false) :: (.int .i64 (m : Int)) :: (.pointer (some ⟨D, 0, none⟩)) :: (.pointer (some ⟨D, 0, none⟩)) :: (.pointer (some ⟨D, 0, none⟩)) :: (.pointer (some ⟨D, 0, none⟩)) :: (.pointer (some ⟨D, 1, none⟩)) :: (.int .i64 (T : Int)) :: (.bool false) :: y67 :: y68 :: y69 :: y70 :: y71 :: [])), defers := [] })
                (fun x a' _ X Y row hs hg hr => hs)
                ?assign ?body ?done ?stop
              case assign =>
                rintro lv pre x W' K ⟨i1, i2⟩ hK
                simp only [encNP] at *
                gi_wp2
                refine hK _ _ ⟨Nat.le_refl _, fun k o h1 hk ho => hk⟩ (Cel.refl _ _) ⟨i1, i2⟩ ?_
                rfl
              case body =>
                rintro lv pre x a' W' hl ⟨r, hr⟩ ⟨i1, i2⟩ rfl hlt2
                obtain ⟨q, hq⟩ := x
                have hqx := mem_nxt.1 hq
                have hqP : q < P := by rw [← HP.out.2]; exact hqx.1
                have hpL : pre.length ≤ 8 := by omega
                obtain ⟨sm, hsm⟩ : ∃ sm, (pre.map fun x : NP (nxt g f.pl.toNat p0) => restM g f c sel (m + 1) x.1).sum = sm := ⟨_, rfl⟩
                have hsb : 0 ≤ sm ∧ sm ≤ 134217728 := by
                  have h := sum_le (l := pre.map (·.1)) (h := restM g f c sel (m + 1)) (B := 16777216) (fun y _ => restM_le HOK.out _ y)
                  rw [List.map_map] at h
                  rw [← hsm]
                  refine ⟨h.1, Int.le_trans h.2 ?_⟩
                  simp only [List.length_map]
                  omega
                have hqb := restM_le (g := g) (c := c) (sel := sel) HOK.out (m + 1) q
                obtain ⟨rq, hrq⟩ : ∃ rq, restM g f c sel (m + 1) q = rq := ⟨_, rfl⟩
                rw [hrq] at hqb
                have hmT2 : m + 1 ≤ T := by have := HM.out; omega
                have HW1 : Hid (IntKind.i64.wrap ((m : Int) + 1) = (m : Int) + 1) := by unfold Hid; rw [IntWalk.i64_in _ ⟨by omega, by omega⟩]
                have HW2 : Hid (IntKind.i64.wrap (sm + rq) = sm + rq) := IntWalk.i64_in _ ⟨by omega, by omega⟩
                rw [hsm] at i1
                have hlk1 : ∀ w', Ent (w.heap.size + 1 + 1) (spotV (m : Int) (p0 : Int)) W' w' → (Instr.lookup 202 (.map (some (w.heap.size + 1 + 1))) (.agg #[.int .i64 (m : Int), .int .i64 (p0 : Int)]) false).run Tryz.prog w' = .ok (.int .i64 sm) w' := fun w' h => by
                  have := (i1.ent (m := m) (p := p0) (by omega) (by omega) (by unfold maxLen; omega) h).look (m := m) (p := p0) (by omega) (by omega)
                  rw [updS_at] at this
                  exact this
                have hlk2 : ∀ w', Ent (w.heap.size + 1 + 1) (spotV (m : Int) (p0 : Int)) W' w' → (Instr.lookup 202 (.map (some (w.heap.size + 1 + 1))) (.agg #[.int .i64 ((m : Int) + 1), .int .i64 (q : Int)]) false).run Tryz.prog w' = .ok (.int .i64 rq) w' := fun w' h => by
                  have := (i1.ent (m := m) (p := p0) (by omega) (by omega) (by unfold maxLen; omega) h).look (m := m + 1) (p := q) (by omega) (by omega)
                  rw [updS_ne _ _ (by omega), restV_done (by rw [HP.out.2]; exact hqP) (by rw [HT.out.2]; exact hmT2) (by rw [HT.out.2]; have := HM.out; omega), hrq] at this
                  unfold spotV at this
                  simp only [Int.natCast_add, Int.natCast_one] at this
                  exact this
                have j3 := i2.cell f3 (by simp)
                have j8 := i2.cell f8 (by simp; omega)
                have j10 := i2.cell f10 (by simp; omega)
                have j11 := i2.cell f11 (by simp; omega)
                have FY : Hid (∀ w', Ent (w.heap.size + 1 + 1) (spotV (m : Int) (p0 : Int)) W' w' → w'.cell? ⟨w.heap.size + 1 + 1 + 1, 0, none⟩ = some (.map (some (w.heap.size + 1 + 1))) ∧ w'.cell? ⟨B8, 0, none⟩ = some (.int .i64 (m : Int)) ∧ w'.cell? ⟨S, 0, none⟩ = some (.int .i64 (m : Int)) ∧ w'.cell? ⟨S, 1, none⟩ = some (.int .i64 (p0 : Int)) ∧
                    (Instr.lookup 202 (.map (some (w.heap.size + 1 + 1))) (.agg #[.int .i64 (m : Int), .int .i64 (p0 : Int)]) false).run Tryz.prog w' = .ok (.int .i64 sm) w' ∧ (Instr.lookup 202 (.map (some (w.heap.size + 1 + 1))) (.agg #[.int .i64 ((m : Int) + 1), .int .i64 (q : Int)]) false).run Tryz.prog w' = .ok (.int .i64 rq) w') :=
                  fun w' h => ⟨h.1.cell j3 (by simp), h.1.cell j8 (by simp; omega), h.1.cell j10 (by simp; omega), h.1.cell j11 (by simp; omega), hlk1 w' h, hlk2 w' h⟩
                have hm100 : m < 100 := by omega
                have hp100 : p0 < 100 := by omega
                have hnn : n0 * 200 + p0 * 20 + 2 * pre.length < maxLen := by unfold maxLen; omega
                have hnn1 : n0 * 200 + p0 * 20 + 2 * pre.length + 1 < maxLen := by unfold maxLen; omega
                have HSUM : Hid (((pre ++ [(⟨q, hq⟩ : NP (nxt g f.pl.toNat p0))]).map fun x : NP (nxt g f.pl.toNat p0) => restM g f c sel (m + 1) x.1).sum = sm + rq) := by
                  unfold Hid
                  rw [List.map_append, List.sum_append, hsm]
                  simp [hrq]
                clear hlk1 hlk2 j3 j8 j10 j11
                gi_wp2
                refine wpIn_region_shut_tail (Ent (w.heap.size + 1 + 1) (spotV (m : Int) (p0 : Int))) (fun w' => Ent (w.heap.size + 1 + 1) (spotV (m : Int) (p0 : Int)) W' w') (fun
                  | 10 => some (fun v wz => ∃ v0 st, v = .tuple #[v0, .int .i64 st] ∧ EntAt (w.heap.size + 1 + 1) m p0 (n0 * 200 + p0 * 20 + 2 * pre.length + 1) (updS (restV g f c sel n0 p0) m p0 sm) st wz)
                  | _ => none) 12 (by kernel_rfl) (by kernel_rfl) (fun _ _ h k => h.trans k) ?hT (Ent.drew _) ?_
                case hT =>
                  intro i R hR
                  match i, hR with
                  | 10, hR => cases hR; exact fun _ _ _ ⟨v0, st, e1, e2⟩ k => ⟨v0, st, e1, e2.up k⟩
                refine wM_val ?ua0 rfl rfl (Ent.refl _ _) (fun w' hD => ?ha0) (fun pha0 => ?na0)
                case ha0 =>
                  obtain ⟨d0, d1, d2, d3, d4, d5⟩ := FY.out w' hD.1
                  go_simp; rfl
                simp only [Act.put, List.setIfInBounds_toArray, List.set_cons_succ, List.set_cons_zero, Nat.reduceAdd]
                refine wM_val ?ua1 rfl rfl (Ent.refl _ _) (fun w' hD => ?ha1) (fun pha1 => ?na1)
                case ha1 =>
                  obtain ⟨d0, d1, d2, d3, d4, d5⟩ := FY.out w' hD.1
                  go_simp; rfl
                simp only [Act.put, List.setIfInBounds_toArray, List.set_cons_succ, List.set_cons_zero, Nat.reduceAdd]
                refine wM_val ?ua2 rfl rfl (Ent.refl _ _) (fun w' hD => ?ha2) (fun pha2 => ?na2)
                case ha2 =>
                  obtain ⟨d0, d1, d2, d3, d4, d5⟩ := FY.out w' hD.1
                  go_simp; rfl
                simp only [Act.put, List.setIfInBounds_toArray, List.set_cons_succ, List.set_cons_zero, Nat.reduceAdd]
                refine wM_val ?ua3 rfl rfl (Ent.refl _ _) (fun w' hD => ?ha3) (fun pha3 => ?na3)
                case ha3 =>
                  obtain ⟨d0, d1, d2, d3, d4, d5⟩ := FY.out w' hD.1
                  go_simp; rfl
                simp only [Act.put, List.setIfInBounds_toArray, List.set_cons_succ, List.set_cons_zero, Nat.reduceAdd]
                refine wM_val ?ua4 rfl rfl (Ent.refl _ _) (fun w' hD => ?ha4) (fun pha4 => ?na4)
                case ha4 =>
                  obtain ⟨d0, d1, d2, d3, d4, d5⟩ := FY.out w' hD.1
                  go_simp; rfl
                simp only [Act.put, List.setIfInBounds_toArray, List.set_cons_succ, List.set_cons_zero, Nat.reduceAdd]
                refine wM_val ?ua5 rfl rfl (Ent.refl _ _) (fun w' hD => ?ha5) (fun pha5 => ?na5)
                case ha5 =>
                  obtain ⟨d0, d1, d2, d3, d4, d5⟩ := FY.out w' hD.1
                  go_simp; rfl
                simp only [Act.put, List.setIfInBounds_toArray, List.set_cons_succ, List.set_cons_zero, Nat.reduceAdd]
                try rw [HW1.out]
                refine wM_val ?ua6 rfl rfl (Ent.refl _ _) (fun w' hD => ?ha6) (fun pha6 => ?na6)
                case ha6 =>
                  obtain ⟨d0, d1, d2, d3, d4, d5⟩ := FY.out w' hD.1
                  go_simp; rfl
                simp only [Act.put, List.setIfInBounds_toArray, List.set_cons_succ, List.set_cons_zero, Nat.reduceAdd]
                refine wM_val ?ua7 rfl rfl (Ent.refl _ _) (fun w' hD => ?ha7) (fun pha7 => ?na7)
                case ha7 =>
                  obtain ⟨d0, d1, d2, d3, d4, d5⟩ := FY.out w' hD.1
                  go_simp; rfl
                simp only [Act.put, List.setIfInBounds_toArray, List.set_cons_succ, List.set_cons_zero, Nat.reduceAdd]
                refine wM_val ?ua8 rfl rfl (Ent.refl _ _) (fun w' hD => ?ha8) (fun pha8 => ?na8)
                case ha8 =>
                  obtain ⟨d0, d1, d2, d3, d4, d5⟩ := FY.out w' hD.1
                  go_simp; rfl
                simp only [Act.put, List.setIfInBounds_toArray, List.set_cons_succ, List.set_cons_zero, Nat.reduceAdd]
                refine wM_val ?ua9 rfl rfl (Ent.refl _ _) (fun w' hD => ?ha9) (fun pha9 => ?na9)
                case ha9 =>
                  obtain ⟨d0, d1, d2, d3, d4, d5⟩ := FY.out w' hD.1
                  go_simp; rfl
                simp only [Act.put, List.setIfInBounds_toArray, List.set_cons_succ, List.set_cons_zero, Nat.reduceAdd]
                try rw [HW2.out]
                refine wM_op _ rfl rfl (opens_val (fun w' hD => ?ha10)) (fun v10 hv10 => ?na10)
                case ha10 =>
                  obtain ⟨v0, st, w1, hrun, hen, hea⟩ := (i1.ent hm100 hp100 hnn hD.1).entry hm100 hp100 hnn1
                  unfold spotV at hrun
                  refine ⟨.tuple #[v0, .int .i64 st], w1, ?_, hen, v0, st, rfl, hea⟩
                  go_simp
                obtain ⟨_, -, -, v0, st, rfl, -⟩ := hv10
                simp only [Act.put, List.setIfInBounds_toArray, List.set_cons_succ, List.set_cons_zero, Nat.reduceAdd]
                refine wM_val ?ua11 rfl rfl (Ent.refl _ _) (fun w' hD => ?ha11) (fun pha11 => ?na11)
                case ha11 =>
                  obtain ⟨d0, d1, d2, d3, d4, d5⟩ := FY.out w' hD.1
                  go_simp; rfl
                simp only [Act.put, List.setIfInBounds_toArray, List.set_cons_succ, List.set_cons_zero, Nat.reduceAdd]
                refine wM_nil ?_
                intro w9 hw9 hF9
                obtain ⟨-, v0', st', e10, es, cl, hb9, -, hst⟩ := hF9 10
                cases e10
                obtain ⟨w10, hrun10, hms10, hg10⟩ := hst w9 (sm + rq) hb9 (WalkArith.wf_i64 (by omega))
                have hb10 : Bel (w.heap.size + 1 + 1) W' w10 := hw9.1.trans ⟨(Below.refl 0 w9).grown hg10 (Nat.zero_le _) (fun _ _ => Nat.zero_le _), fun k hk hD => hg10.block k hk (fun e => hD (by cases e; rfl))⟩
                clear hF9 hst hb9
                simp only [List.drop_succ_cons, List.drop_zero]
                gi_wp2
                refine ⟨⟨hb10.size, fun k o h1 hk ho => hb10.heap hk (by omega)⟩, hb10.cel, ?_⟩
                dsimp only
                rw [HSUM.out]
                rw [updS_twice] at hms10
                exact ⟨hms10.mono (by simp only [List.length_append, List.length_singleton]; omega), i2.trans hb10⟩
              case done =>
                rintro D3 xs W3 hD3 hxs ⟨i1, i2⟩ hK3
                have hsx : (xs.map fun x : NP (nxt g f.pl.toNat p0) => restM g f c sel (m + 1) x.1).sum = restM g f c sel m p0 := by
                  rw [restM_step (by rw [HT.out.2]; have := HM.out; omega), if_pos hag]
                  have h := congrArg (List.map (restM g f c sel (m + 1))) hxs
                  rw [List.map_map] at h
                  exact congrArg List.sum h
                have hxl : xs.length ≤ 8 := by
                  have h := congrArg List.length hxs
                  rw [List.length_map] at h
                  omega
                rw [hsx, restV_next (by rw [HT.out.2]; exact HM.out) (by rw [HP.out.2]; exact hltp)] at i1
                have hmk7 := hmk6.cons i2 hM6.nodef hK3 hD3 (by omega)
                have hb7 := hb6.trans i2
                have i1' := i1.mono (m := n0 * 200 + (p0 + 1) * 20) (by omega)
                gi_wp2
                refine ⟨⟨p0 + 1, _, _, _, _, _, _, _, _, _, _, _, _, _, _, _, _, _, _, _, _, _, _, _, _, _, _, _, _, _, _, _, _, _, _, _, _, _, _, _, _, _, _, _, _, _, _, _, _, _, _, _, _, _, _, _, _, _, _, _, _, _, _, rfl, by omega, i1', hb7, hmk7⟩, ?_⟩
                simp [intOf]; omega
              case stop =>
                rintro D c pre W _ _ h _
                exact h.elim
        · have hltp' : ¬ (p0 : Int) < (P : Int) := by omega
          have hM5 : MapSp V (w.heap.size + 1 + 1) ((n0 + 1) * 200) (restV g f c sel (n0 + 1) 0) := by
            rw [← restV_row n0 (p0 := p0) (by rw [HP.out.2]; omega)]
            exact hM.mono (by omega)
          have v8o := fun o => (Ext.alloc (Ext.refl V) o).cell v8
          obtain ⟨U, hU⟩ : ∃ U, V.alloc (.cells #[.int .i64 ((m : Int) - 1)] 3) = U := ⟨_, rfl⟩
          have hxU : Ext V U := by rw [← hU]; exact Ext.alloc (Ext.refl _) _
          have hbU := hbV1.trans (hxU.bel (D := w.heap.size + 1 + 1))
          have hmkU := hmk.bel (hxU.bel (D := w.heap.size + 1 + 1)) hM.nodef
          have hMU := hM5.ext hxU
          have hBU : Box8 U V.heap.size ((T : Int) - ((n0 + 1 : Nat) : Int)) := by
            have := World.alloc_heap_new V (.cells #[.int .i64 ((m : Int) - 1)] 3)
            unfold Box8
            rw [← hU, this, show (T : Int) - ((n0 + 1 : Nat) : Int) = (m : Int) - 1 by have := HM.out; omega]
          have hlt1 : n0 + 1 ≤ T + 1 := by omega
          have hBV : W1.heap.size ≤ V.heap.size := hbV1.size
          have hmeas : (boxInt U (.pointer (some ⟨V.heap.size, 0, none⟩)) + 1).toNat < (boxInt W (.pointer (some ⟨B8, 0, none⟩)) + 1).toNat := by
            rw [hBU.int, HBX.out.int]; omega
          gi_wp2
          try rw [hU]
          exact ⟨n0 + 1, V.heap.size, _, _, _, _, _, _, _, _, _, _, _, _, _, _, _, _, _, _, _, _, _, _, _, _, _, _, _, _, _, _, _, _, _, _, _, _, _, _, _, _, _, _, _, _, _, _, _, _, _, _, _, _, _, _, _, _, _, _, _, _, _, _, _, ds, rfl, hlt1, hBV, hBU, hMU, hbU, hmkU⟩
    · have hn : n0 = T + 1 := by omega
      have hmv : (T : Int) - (n0 : Int) = -1 := by omega
      rw [hmv] at q8
      have hM5 : MapSp W (w.heap.size + 1 + 1) 100000 (restV g f c sel (f.mi.toNat + 1) 0) := by
        rw [HT.out.2, ← hn]
        exact hM.mono (by omega)
      clear hM
      gi_wp2
      refine leaves_marks (by simp) _ _ hmk fun W' hb hc => ?_
      have hxx : Ext w W' := Below.trans x6 hb
      have hM6 := hM5.undef hc
      first
        | exact ⟨_, results_tmp rfl _ _ _, _, rfl, hxx, by omega, hM6⟩
        | exact ⟨_, results_tmp rfl _ _ _, ⟨_, rfl, hxx, by omega, hM6⟩⟩
end Go.Proofs.YtlonpgbapiemcaaGreat
