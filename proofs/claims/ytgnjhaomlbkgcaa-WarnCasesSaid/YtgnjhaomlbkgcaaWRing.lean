/- The walk of Ring. -/
import Derived.Test.YtgnjhaomlbkgcaaWRev
import Derived.Test.YtgnjhaomlbkgcaaWShows
import Derived.Test.YtgnjhaomlbkgcaaWCyc
import Derived.Test.YtgnjhaomlbkgcaaWClone
import Derived.Deep.LoopGhost
namespace Go.Proofs.Ytgnjhaomlbkgcaa
open Go Go.RowKit Go.Shelf
set_option linter.unusedVariables false
set_option linter.unusedSimpArgs false

theorem opens_skip {P : Program} {E : World → World → Prop} {o : Oper} {a : Act} {D : World → Prop} {R : Value → World → Prop} (hr : ∀ w, D w → ∃ w', (execOp a.eval o).run P w = .ok .skip w' ∧ E w w' ∧ R undef w') : opens P E o a D R := by
  intro w hw
  obtain ⟨w', h1, h2, h3⟩ := hr w hw
  rw [h1]
  exact ⟨h2, h3⟩

structure RS where
  sm : Nat → Int
  by_ : Nat → Nat
  last : Nat
def rstep (s : RS) (p : Nat × Bd) : RS :=
  if s.sm p.2.f.toNat + p.2.m < s.sm p.2.t.toNat then ⟨upd1 s.sm p.2.t.toNat (s.sm p.2.f.toNat + p.2.m), upd1 s.by_ p.2.t.toNat p.1, p.2.t.toNat⟩ else s
def rpass (s : RS) (L : List (Nat × Bd)) : RS := L.foldl rstep s
def rrun (L : List (Nat × Bd)) : Nat → RS → RS
  | 0, s => s
  | n + 1, s => rrun L n (rpass s L)
def RS0 : RS := ⟨fun _ => 0, fun _ => 0, 0⟩
/-- The event from which the bound leads that was last found for x. -/
def predR (l : List Bd) (s : RS) (x : Nat) : Nat := ((l[s.by_ x]?).map (·.f.toNat)).getD 0
/-- The events passed from x on until stop is met. -/
def pathR (f : Nat → Nat) (stop : Nat) : Nat → Nat → List Nat
  | 0, _ => []
  | k + 1, x => if x = stop then [] else x :: pathR f stop k (f x)
def endR (l : List Bd) : RS := rrun (numFrom 0 l) 9 RS0
def startR (l : List Bd) : Nat := iterN (predR l (endR l)) 8 (endR l).last
/-- The ring, from its last bound to its first one. -/
def ringBack (l : List Bd) : List Int := ((startR l) :: pathR (predR l (endR l)) (startR l) 8 (predR l (endR l) (startR l))).map fun x => ((endR l).by_ x : Int)
def ringL (l : List Bd) : List Int := (ringBack l).reverse
def ringC (c : Cs) : Int := if checkC c ≠ 0 then checkC c else if clashM (gapsM allT c) then 0 else 6

def RInv (len cnt : Nat) (s : RS) : Prop := (∀ x, x < 8 → -(1000 * (cnt : Int)) ≤ s.sm x ∧ s.sm x ≤ 0) ∧ (∀ x, s.by_ x < len) ∧ s.last < 8
theorem RInv.start {len : Nat} (h : 0 < len) : RInv len 0 RS0 := ⟨fun _ _ => by simp [RS0], fun _ => h, by simp [RS0]⟩
theorem RInv.mono {len a b : Nat} {s : RS} (h : RInv len a s) (hab : a ≤ b) : RInv len b s := ⟨fun x hx => by have := h.1 x hx; omega, h.2⟩
theorem RInv.step {len cnt : Nat} {s : RS} (h : RInv len cnt s) {p : Nat × Bd} (hp : p.1 < len) (hb : p.2.ok) : RInv len (cnt + 1) (rstep s p) := by
  obtain ⟨⟨f0, f8⟩, ⟨t0, t8⟩, m1, m2⟩ := hb
  unfold rstep
  split
  · rename_i hlt
    refine ⟨fun x hx => ?_, fun x => ?_, by show p.2.t.toNat < 8; omega⟩
    · have h1 := h.1 x hx
      have h2 := h.1 p.2.f.toNat (by omega)
      have h3 := h.1 p.2.t.toNat (by omega)
      simp only [upd1]
      split <;> omega
    · simp only [upd1]
      split
      · exact hp
      · exact h.2.1 x
  · exact h.mono (by omega)

/-- All cells but those of S and Y as they were; all below B as it was. -/
def Ce2 (B S Y : Nat) (w w' : World) : Prop := Below B w w' ∧ w.heap.size ≤ w'.heap.size ∧ ∀ (p : Addr) (u : Value), p.block ≠ S → p.block ≠ Y → w.cell? p = some u → w'.cell? p = some u
theorem Ce2.refl (B S Y : Nat) (w : World) : Ce2 B S Y w w := ⟨Below.refl _ _, Nat.le_refl _, fun _ _ _ _ h => h⟩
theorem Ce2.trans {B S Y : Nat} {a b c : World} (h : Ce2 B S Y a b) (k : Ce2 B S Y b c) : Ce2 B S Y a c :=
  ⟨h.1.trans k.1, Nat.le_trans h.2.1 k.2.1, fun p u h1 h2 hp => k.2.2 p u h1 h2 (h.2.2 p u h1 h2 hp)⟩
theorem Ext.ce2 {B S Y : Nat} {w w' : World} (h : Ext w w') (hB : B ≤ w.heap.size) : Ce2 B S Y w w' := ⟨Below.mono h hB, h.size, fun _ _ _ _ hp => h.cell hp⟩
theorem St2.ce2 {B S Y i j : Nat} {v1 v2 : Value} {w w' : World} (h : St2 B ⟨S, i, none⟩ v1 ⟨Y, j, none⟩ v2 w w') : Ce2 B S Y w w' :=
  ⟨h.below, h.size, fun p u h1 h2 hp => h.cell p u (fun e => h1 (by rw [e])) (fun e => h2 (by rw [e])) hp⟩
theorem Bounds.ce2 {B S Y : Nat} {w w' : World} {A : Option Addr} {l : List Bd} (h : Bounds w A l) (hb : Ce2 B S Y w w') (hA : ∀ a, A = some a → a.block ≠ S ∧ a.block ≠ Y) : Bounds w' A l := by
  rcases h with h | ⟨b, off, rfl, hc⟩
  · exact .inl h
  · exact .inr ⟨b, off, rfl, fun j u hu => hb.2.2 _ _ (hA ⟨b, off, none⟩ rfl).1 (hA ⟨b, off, none⟩ rfl).2 (hc j u hu)⟩
/-- The row that holds the first stored cell. -/
theorem RowN.st1 {B S Y tn j : Nat} {v1 v2 : Value} {x : Int} {f : Nat → Int} {w w' : World} (h : RowN w S 8 f) (hs : St2 B ⟨S, tn, none⟩ v1 ⟨Y, j, none⟩ v2 w w') (hSY : S ≠ Y) (hv : w'.cell? ⟨S, tn, none⟩ = some (.int .i64 x)) : RowN w' S 8 (upd1 f tn x) := fun k hk => by
  refine ⟨?_, (hs.fz _ (by rw [(h k hk).1]; rfl)).trans (h k hk).2⟩
  unfold upd1
  by_cases e : k = tn
  · subst e; rw [if_pos rfl]; exact hv
  · rw [if_neg e]; exact hs.cell _ _ (fun q => e (by cases q; rfl)) (fun q => hSY (by cases q; rfl)) (h k hk).1
theorem RowN.st2 {B S Y tn j : Nat} {v1 v2 : Value} {x : Int} {f : Nat → Int} {w w' : World} (h : RowN w Y 8 f) (hs : St2 B ⟨S, j, none⟩ v1 ⟨Y, tn, none⟩ v2 w w') (hSY : S ≠ Y) (hv : w'.cell? ⟨Y, tn, none⟩ = some (.int .i64 x)) : RowN w' Y 8 (upd1 f tn x) := fun k hk => by
  refine ⟨?_, (hs.fz _ (by rw [(h k hk).1]; rfl)).trans (h k hk).2⟩
  unfold upd1
  by_cases e : k = tn
  · subst e; rw [if_pos rfl]; exact hv
  · rw [if_neg e]; exact hs.cell _ _ (fun q => hSY (by cases q; rfl)) (fun q => e (by cases q; rfl)) (h k hk).1
theorem RowN.bel {D : Nat} {w w' : World} {g n : Nat} {f : Nat → Int} (h : RowN w g n f) (hx : Bel D w w') (hne : g ≠ D) : RowN w' g n f := fun j hj => by
  have hlt := World.block_lt_of_cell? w _ (h j hj).1
  have hb := hx.2 g hlt hne
  exact ⟨hx.cell (h j hj).1 hne, by have := (h j hj).2; unfold World.frozen? at *; rw [hb]; exact this⟩

theorem rnds_nil : ∀ (n : Nat) (g : Mat), rnds [] n g = g := by
  intro n
  induction n with
  | zero => exact fun _ => rfl
  | succ n ih => exact fun g => ih g
theorem clash_pos {c : Cs} (h : clashM (gapsM allT c) = true) : 0 < c.all.length := by
  rcases Nat.eq_zero_or_pos c.all.length with h0 | h0
  · have h1 := bel_len' allT c
    have h2 : (belNum allT c).map (·.2) = [] := List.eq_nil_of_length_eq_zero (by omega)
    unfold gapsM at h
    rw [h2, rnds_nil] at h
    exact absurd h (by decide)
  · exact h0
theorem numFrom_get (l : List Bd) (n k : Nat) (x : Bd) (h : l[k]? = some x) : (numFrom n l).drop k = (n + k, x) :: (numFrom n l).drop (k + 1) := by
  induction l generalizing n k with
  | nil => simp at h
  | cons b l ih =>
    cases k with
    | zero => simp at h; subst h; simp [numFrom]
    | succ k =>
      have := ih (n + 1) k (by simpa using h)
      simp only [numFrom, List.drop_succ_cons]
      rw [this]
      congr 2
      omega
theorem numFrom_dropEnd (l : List Bd) (n k : Nat) (h : l.length ≤ k) : (numFrom n l).drop k = [] := by
  induction l generalizing n k with
  | nil => simp [numFrom]
  | cons b l ih =>
    cases k with
    | zero => simp at h
    | succ k => simp only [numFrom, List.drop_succ_cons]; exact ih (n + 1) k (by simpa using h)
theorem rstep_yes {s : RS} {i fn tn : Nat} {m : Int} (h : s.sm fn + m < s.sm tn) : rstep s (i, ⟨fn, tn, m⟩) = ⟨upd1 s.sm tn (s.sm fn + m), upd1 s.by_ tn i, tn⟩ := by
  unfold rstep; rw [if_pos (by simpa using h)]; rfl
theorem rstep_no {s : RS} {i fn tn : Nat} {m : Int} (h : ¬ s.sm fn + m < s.sm tn) : rstep s (i, ⟨fn, tn, m⟩) = s := by
  unfold rstep; rw [if_neg (by simpa using h)]

set_option maxRecDepth 100000 in
set_option maxHeartbeats 4000000 in
theorem ring_any (v : Value) (c : Cs) (w : World) (hc : CsR w v c) (hs : c.sized) :
    Calls Try.prog 25 #[v] w fun e w' => ∃ r, e = .returned (.tuple #[r, .int .i64 (ringC c)]) ∧ Ext w w' ∧ (ringC c ≠ 0 → r = .slice none 0 0) ∧
      (ringC c = 0 → ∃ g c', r = .slice (some ⟨g, 0, none⟩) (ringL c.all).length c' ∧ Ints w' (some ⟨g, 0, none⟩) (ringL c.all)) := by
  have hc' := hc
  obtain ⟨A1, c1, A2, c2, rfl, hB, hC⟩ := hc
  generalize hT : ringC c = T
  have HT : Hid ((if checkC c ≠ 0 then checkC c else if clashM (gapsM allT c) then 0 else 6) = T) := hT
  clear hT
  go_enter Try.func25, Try.ntmps25
  go_wp2_with fail
  have hx0 : Ext w (w.alloc (.cells #[.int .i64 c.ev, .slice A1 c.bs.length c1, .int .i64 c.wi, .slice A2 c.cl.length c2] 26)) := Ext.alloc (Ext.refl w) _
  refine (opened_any _ c _ (hc'.ext hx0) hs).mono ?_
  rintro e w1 ⟨r, rfl, hb1, hr1, hr2⟩
  have hx1 := hx0.trans hb1
  have kc0 := hb1.cell (p := ⟨w.heap.size, 0, none⟩) (u := .int .i64 c.ev) (by simp [go_sem])
  have kc1 := hb1.cell (p := ⟨w.heap.size, 1, none⟩) (u := .slice A1 c.bs.length c1) (by simp [go_sem])
  have kc2 := hb1.cell (p := ⟨w.heap.size, 2, none⟩) (u := .int .i64 c.wi) (by simp [go_sem])
  have kc3 := hb1.cell (p := ⟨w.heap.size, 3, none⟩) (u := .slice A2 c.cl.length c2) (by simp [go_sem])
  by_cases h0 : checkC c = 0
  case neg =>
    have hr := hr2 h0
    subst hr
    have HT2 : Hid (T = checkC c) := by unfold Hid; rw [← HT.out, if_pos h0]
    have H0 := hid h0
    clear hr1 hr2
    generalize hE : checkC c = E at *
    clear hE
    go_wp2
    go_ret2
    exact ⟨.slice none 0 0, by rw [HT2.out]; rfl, hx1, fun _ => rfl, fun h => absurd (HT2.out.symm.trans h) H0.out⟩
  have hr := hr1 h0
  have H0 := hid h0
  have HT2 : Hid ((if clashM (gapsM allT c) then (0 : Int) else 6) = T) := by unfold Hid; rw [← HT.out]; simp [h0]
  rw [h0]
  clear h0 HT hr1 hr2
  go_wp2_with fail
  refine (clash_any r c _ w1 hr).mono ?_
  rintro e w2 ⟨rfl, rfl⟩
  cases hq : clashM (gapsM allT c)
  · have HQ : Hid (T = 6) := by unfold Hid; rw [← HT2.out]; simp [hq]
    clear hq HT2
    go_wp2
    go_ret2
    exact ⟨.slice none 0 0, by rw [HQ.out]; rfl, hx1, fun _ => rfl, fun h => (by rw [HQ.out] at h; cases h)⟩
  have HQ : Hid (T = 0) := by unfold Hid; rw [← HT2.out]; simp [hq]
  have hpos : 0 < c.all.length := clash_pos hq
  clear hq HT2
  obtain ⟨z1, z2⟩ := sized_all H0.out
  have h52 := checkC_52 H0.out
  have kd0 := fun o o' => (Ext.alloc (Ext.alloc (Ext.refl w2) o) o').cell kc0
  have kd1 := fun o o' => (Ext.alloc (Ext.alloc (Ext.refl w2) o) o').cell kc1
  have kd2 := fun o o' => (Ext.alloc (Ext.alloc (Ext.refl w2) o) o').cell kc2
  have kd3 := fun o o' => (Ext.alloc (Ext.alloc (Ext.refl w2) o) o').cell kc3
  go_wp2_with fail
  obtain ⟨Wa, hWa⟩ : ∃ Wa, (w2.alloc (.cells #[.int .i64 0, .int .i64 0, .int .i64 0, .int .i64 0, .int .i64 0, .int .i64 0, .int .i64 0, .int .i64 0] 56)).alloc (.cells #[.int .i64 0, .int .i64 0, .int .i64 0, .int .i64 0, .int .i64 0, .int .i64 0, .int .i64 0, .int .i64 0] 56) = Wa := ⟨_, rfl⟩
  have hxa : Ext w2 Wa := by rw [← hWa]; exact Ext.alloc (Ext.alloc (Ext.refl _) _) _
  have hsza : Wa.heap.size = w2.heap.size + 2 := by rw [← hWa]; simp
  have hYa : RowN Wa w2.heap.size 8 (fun x => (RS0.by_ x : Int)) := by
    intro j hj
    rw [← hWa]
    match j, hj with
    | 0, _ | 1, _ | 2, _ | 3, _ | 4, _ | 5, _ | 6, _ | 7, _ => exact ⟨by simp [go_sem, RS0], by simp [go_sem]⟩
  have hSa : RowN Wa (w2.heap.size + 1) 8 RS0.sm := by
    intro j hj
    rw [← hWa]
    match j, hj with
    | 0, _ | 1, _ | 2, _ | 3, _ | 4, _ | 5, _ | 6, _ | 7, _ => exact ⟨by simp [go_sem, RS0], by simp [go_sem]⟩
  rw [hWa]
  clear hWa kd0 kd1 kd2 kd3
  have hxx := hx1.trans hxa
  refine (all_calls _ c Wa (hc'.ext hxx) z1 z2).mono ?_
  rintro e W0 ⟨A', c', rfl, ho, hb2⟩
  have hX0 := hxx.trans hb2
  have hw2 := hx1.size
  have hY0 := hYa.ext hb2
  have hS0 := hSa.ext hb2
  have hBo : Bounds W0 A' c.all := Rd.of_own ho
  have hA' : ∀ a, A' = some a → a.block ≠ w2.heap.size + 1 ∧ a.block ≠ w2.heap.size := by
    intro a ha
    subst ha
    have := (ho.lt a.block rfl).1
    exact ⟨by omega, by omega⟩
  clear ho
  have HOK := hid (checkC_bd H0.out)
  have HDIF : Hid (∀ b ∈ c.all, (b.f != b.t) = true) := fun b hb => List.all_eq_true.1 (checkC_ok H0.out).2.2.2.2 b hb
  have HF : Hid (rrun (numFrom 0 c.all) (9 - 0) RS0 = endR c.all) := rfl
  go_wp2
  go_loopw [9, 29] (fun la i wr => ∃ (r : Nat) (s : RS), r ≤ 9 ∧ i = .int .i64 (r : Int) ∧ la = .int .i64 (s.last : Int) ∧ RInv c.all.length (52 * r) s ∧ RowN wr (w2.heap.size + 1) 8 s.sm ∧ RowN wr w2.heap.size 8 (fun x => (s.by_ x : Int)) ∧ Ce2 w.heap.size (w2.heap.size + 1) w2.heap.size W0 wr ∧ Hid (rrun (numFrom 0 c.all) (9 - r) s = endR c.all)) (fun _ i _ => 9 - (intOf i).toNat)
  case atStart => exact ⟨0, RS0, by omega, rfl, rfl, RInv.start hpos, hS0, hY0, Ce2.refl _ _ _ _, HF⟩
  case round =>
    obtain ⟨r, s, hr9, rfl, rfl, hinv, hS, hY, hbe, HF⟩ := hrel
    by_cases hlt : r < 9
    · have hlt' : (r : Int) < 9 := by omega
      have HF2 : Hid (rrun (numFrom 0 c.all) (9 - (r + 1)) (rpass s ((numFrom 0 c.all).drop 0)) = endR c.all) := by
        unfold Hid; rw [← HF.out, show 9 - r = (9 - (r + 1)) + 1 by omega]; rfl
      clear HF
      go_wp2
      go_loopw [9, 33] (fun la i wr => ∃ (k : Nat) (s : RS), k ≤ c.all.length ∧ i = .int .i64 (k : Int) ∧ la = .int .i64 (s.last : Int) ∧ RInv c.all.length (52 * r + k) s ∧ RowN wr (w2.heap.size + 1) 8 s.sm ∧ RowN wr w2.heap.size 8 (fun x => (s.by_ x : Int)) ∧ Ce2 w.heap.size (w2.heap.size + 1) w2.heap.size W0 wr ∧ Hid (rrun (numFrom 0 c.all) (9 - (r + 1)) (rpass s ((numFrom 0 c.all).drop k)) = endR c.all)) (fun _ i _ => c.all.length - (intOf i).toNat)
      case atStart => exact ⟨0, s, Nat.zero_le _, rfl, rfl, hinv, hS, hY, hbe, HF2⟩
      case round =>
        obtain ⟨k, s, hk, rfl, rfl, hinv, hS, hY, hbe, HF⟩ := hrel
        by_cases hltk : k < c.all.length
        · have hltk' : (k : Int) < (c.all.length : Int) := by omega
          obtain ⟨x, hx⟩ := get_of_lt c.all k hltk
          have hok := HOK.out x (mem_of_get hx)
          have hmem := mem_of_get hx
          obtain ⟨bb, boff, rfl, e0, e1, e2⟩ := (hBo.ce2 hbe hA').at_ hx
          have HN := hid (numFrom_get c.all 0 k x hx)
          have hst := hinv.step (p := (0 + k, x)) (by show 0 + k < _; omega) hok
          have HX : Hid (rrun (numFrom 0 c.all) (9 - (r + 1)) (rpass (rstep s (0 + k, x)) ((numFrom 0 c.all).drop (k + 1))) = endR c.all) := by
            unfold Hid; rw [← HF.out, HN.out]; rfl
          clear HF hx
          obtain ⟨f, t, m⟩ := x
          obtain ⟨⟨f0, f8⟩, ⟨t0, t8⟩, m1, m2⟩ := hok
          simp only at f0 f8 t0 t8 m1 m2 e0 e1 e2
          obtain ⟨fn, rfl⟩ : ∃ fn : Nat, f = fn := ⟨f.toNat, by omega⟩
          obtain ⟨tn, rfl⟩ : ∃ tn : Nat, t = tn := ⟨t.toNat, by omega⟩
          rw [Nat.zero_add] at HX hst
          have hxo := Ext.alloc (Ext.refl wr) (.cells #[.int .i64 (fn : Int), .int .i64 (tn : Int), .int .i64 m] 35)
          obtain ⟨sf, _⟩ := hS.ext hxo fn (by omega)
          obtain ⟨st, sz⟩ := hS.ext hxo tn (by omega)
          obtain ⟨yt, yz⟩ := hY.ext hxo tn (by omega)
          have i1 := hinv.1 fn (by omega)
          have i2 := hinv.1 tn (by omega)
          have hwr : IntKind.i64.wrap (s.sm fn + m) = s.sm fn + m := IntWalk.i64_in _ ⟨by omega, by omega⟩
          have hlS := World.block_lt_of_cell? wr _ (hS 0 (by omega)).1
          simp only at hlS
          have hn1 : ¬ w2.heap.size + 1 = wr.heap.size := by omega
          have hn2 : ¬ w2.heap.size = wr.heap.size := by omega
          have hn3 : ¬ wr.heap.size = w2.heap.size + 1 := by omega
          have hn4 : ¬ wr.heap.size = w2.heap.size := by omega
          have hSY : ¬ w2.heap.size + 1 = w2.heap.size := by omega
          go_wp2
          go_region
          obtain ⟨Wb, hWb⟩ : ∃ Wb, (wr.alloc (.cells #[.int .i64 (fn : Int), .int .i64 (tn : Int), .int .i64 m] 35)).drew = Wb := ⟨_, rfl⟩
          have hxb : Ext wr Wb := by rw [← hWb]; exact hxo.trans (Ext.drew (Ext.refl _))
          have q0 : Wb.cell? ⟨wr.heap.size, 0, none⟩ = some (.int .i64 (fn : Int)) := by rw [← hWb]; simp [go_sem]
          have q1 : Wb.cell? ⟨wr.heap.size, 1, none⟩ = some (.int .i64 (tn : Int)) := by rw [← hWb]; simp [go_sem]
          have q2 : Wb.cell? ⟨wr.heap.size, 2, none⟩ = some (.int .i64 m) := by rw [← hWb]; simp [go_sem]
          have hSb := hS.ext hxb
          have hYb := hY.ext hxb
          have hbb := hbe.trans (Ext.ce2 hxb (by have := hbe.2.1; have := hX0.size; omega))
          have hff : fn ≠ tn := by
            have h1 := HDIF.out _ hmem
            have h2 : ¬ (fn : Int) = (tn : Int) := by simpa using h1
            omega
          obtain ⟨uf, _⟩ := hSb fn (by omega)
          obtain ⟨ut, uz⟩ := hSb tn (by omega)
          obtain ⟨vt, vz⟩ := hYb tn (by omega)
          rw [hWb]
          clear hWb sf st sz yt yz e0 e1 e2 hS hY hbe
          by_cases hless : s.sm fn + m < s.sm tn
          · rw [rstep_yes hless] at HX hst
            have hpp : (⟨w2.heap.size + 1, tn, none⟩ : Addr) ≠ ⟨w2.heap.size, tn, none⟩ := fun e => by injection e; omega
            have FX : Hid (∀ w', St2 w.heap.size ⟨w2.heap.size + 1, tn, none⟩ (.int .i64 (s.sm fn + m)) ⟨w2.heap.size, tn, none⟩ (.int .i64 (k : Int)) Wb w' → w'.cell? ⟨wr.heap.size, 0, none⟩ = some (.int .i64 (fn : Int)) ∧ w'.cell? ⟨wr.heap.size, 1, none⟩ = some (.int .i64 (tn : Int)) ∧ w'.cell? ⟨wr.heap.size, 2, none⟩ = some (.int .i64 m) ∧
                w'.cell? ⟨w2.heap.size + 1, fn, none⟩ = some (.int .i64 (s.sm fn)) ∧ (w'.cell? ⟨w2.heap.size + 1, tn, none⟩).isSome = true ∧ (w'.cell? ⟨w2.heap.size, tn, none⟩).isSome = true ∧ w'.frozen? ⟨w2.heap.size + 1, tn, none⟩ = false ∧ w'.frozen? ⟨w2.heap.size, tn, none⟩ = false) := fun w' h =>
              ⟨h.cell _ _ (fun e => by injection e; omega) (fun e => by injection e; omega) q0, h.cell _ _ (fun e => by injection e; omega) (fun e => by injection e; omega) q1, h.cell _ _ (fun e => by injection e; omega) (fun e => by injection e; omega) q2,
                h.cell _ _ (fun e => by injection e; omega) (fun e => by injection e; omega) uf, h.some1 (by rw [ut]; rfl), h.some2 (by rw [vt]; rfl), (h.fz _ (by rw [ut]; rfl)).trans uz, (h.fz _ (by rw [vt]; rfl)).trans vz⟩
            go_wp2
            refine wp_region_opens (St2 w.heap.size ⟨w2.heap.size + 1, tn, none⟩ (.int .i64 (s.sm fn + m)) ⟨w2.heap.size, tn, none⟩ (.int .i64 (k : Int))) (fun w' => St2 w.heap.size ⟨w2.heap.size + 1, tn, none⟩ (.int .i64 (s.sm fn + m)) ⟨w2.heap.size, tn, none⟩ (.int .i64 (k : Int)) Wb w')
              (fun | 15 => some (fun v W => v = undef ∧ W.cell? ⟨w2.heap.size + 1, tn, none⟩ = some (.int .i64 (s.sm fn + m))) | 17 => some (fun v W => v = undef ∧ W.cell? ⟨w2.heap.size, tn, none⟩ = some (.int .i64 (k : Int))) | _ => none) (by kernel_rfl) (by kernel_rfl) (fun _ _ h k => h.trans k) ?hT ⟨(Below.refl _ _).drew, Nat.le_refl _, fun _ _ _ _ h => h, fun h => h, fun h => h, fun _ _ => rfl, fun h => h, fun h => h⟩ ?_
            case hT =>
              intro i R hR
              match i, hR with
              | 15, hR => cases hR; exact fun _ _ _ h k => ⟨h.1, k.keep1 h.2⟩
              | 17, hR => cases hR; exact fun _ _ _ h k => ⟨h.1, k.keep2 h.2⟩
            refine wpM_val ?u0 rfl rfl St2.refl (fun w' hD => ?h0) ?n0
            case h0 =>
              obtain ⟨d0, d1, d2, d3, d4, d5, d6, d7⟩ := FX.out w' hD.1
              go_simp; rfl
            simp only [Act.put, List.setIfInBounds_toArray, List.set_cons_succ, List.set_cons_zero, Nat.reduceAdd]
            refine wpM_val ?u1 rfl rfl St2.refl (fun w' hD => ?h1) ?n1
            case h1 =>
              obtain ⟨d0, d1, d2, d3, d4, d5, d6, d7⟩ := FX.out w' hD.1
              go_simp; rfl
            simp only [Act.put, List.setIfInBounds_toArray, List.set_cons_succ, List.set_cons_zero, Nat.reduceAdd]
            refine wpM_val ?u2 rfl rfl St2.refl (fun w' hD => ?h2) ?n2
            case h2 =>
              obtain ⟨d0, d1, d2, d3, d4, d5, d6, d7⟩ := FX.out w' hD.1
              go_simp; rfl
            simp only [Act.put, List.setIfInBounds_toArray, List.set_cons_succ, List.set_cons_zero, Nat.reduceAdd]
            refine wpM_val ?u3 rfl rfl St2.refl (fun w' hD => ?h3) ?n3
            case h3 =>
              obtain ⟨d0, d1, d2, d3, d4, d5, d6, d7⟩ := FX.out w' hD.1
              go_simp; rfl
            simp only [Act.put, List.setIfInBounds_toArray, List.set_cons_succ, List.set_cons_zero, Nat.reduceAdd]
            refine wpM_val ?u4 rfl rfl St2.refl (fun w' hD => ?h4) ?n4
            case h4 =>
              obtain ⟨d0, d1, d2, d3, d4, d5, d6, d7⟩ := FX.out w' hD.1
              go_simp; rfl
            simp only [Act.put, List.setIfInBounds_toArray, List.set_cons_succ, List.set_cons_zero, Nat.reduceAdd]
            refine wpM_val ?u5 rfl rfl St2.refl (fun w' hD => ?h5) ?n5
            case h5 =>
              obtain ⟨d0, d1, d2, d3, d4, d5, d6, d7⟩ := FX.out w' hD.1
              go_simp; rfl
            simp only [Act.put, List.setIfInBounds_toArray, List.set_cons_succ, List.set_cons_zero, Nat.reduceAdd]
            refine wpM_val ?u6 rfl rfl St2.refl (fun w' hD => ?h6) ?n6
            case h6 =>
              obtain ⟨d0, d1, d2, d3, d4, d5, d6, d7⟩ := FX.out w' hD.1
              go_simp; rfl
            simp only [Act.put, List.setIfInBounds_toArray, List.set_cons_succ, List.set_cons_zero, Nat.reduceAdd]
            refine wpM_val ?u7 rfl rfl St2.refl (fun w' hD => ?h7) ?n7
            case h7 =>
              obtain ⟨d0, d1, d2, d3, d4, d5, d6, d7⟩ := FX.out w' hD.1
              go_simp; rfl
            simp only [Act.put, List.setIfInBounds_toArray, List.set_cons_succ, List.set_cons_zero, Nat.reduceAdd]
            refine wpM_val ?u8 rfl rfl St2.refl (fun w' hD => ?h8) ?n8
            case h8 =>
              obtain ⟨d0, d1, d2, d3, d4, d5, d6, d7⟩ := FX.out w' hD.1
              go_simp; rfl
            simp only [Act.put, List.setIfInBounds_toArray, List.set_cons_succ, List.set_cons_zero, Nat.reduceAdd]
            refine wpM_val ?u9 rfl rfl St2.refl (fun w' hD => ?h9) ?n9
            case h9 =>
              obtain ⟨d0, d1, d2, d3, d4, d5, d6, d7⟩ := FX.out w' hD.1
              go_simp; rfl
            simp only [Act.put, List.setIfInBounds_toArray, List.set_cons_succ, List.set_cons_zero, Nat.reduceAdd]
            refine wpM_val ?u10 rfl rfl St2.refl (fun w' hD => ?h10) ?n10
            case h10 =>
              obtain ⟨d0, d1, d2, d3, d4, d5, d6, d7⟩ := FX.out w' hD.1
              go_simp; rfl
            simp only [Act.put, List.setIfInBounds_toArray, List.set_cons_succ, List.set_cons_zero, Nat.reduceAdd]
            refine wpM_val ?u11 rfl rfl St2.refl (fun w' hD => ?h11) ?n11
            case h11 =>
              obtain ⟨d0, d1, d2, d3, d4, d5, d6, d7⟩ := FX.out w' hD.1
              go_simp; rfl
            simp only [Act.put, List.setIfInBounds_toArray, List.set_cons_succ, List.set_cons_zero, Nat.reduceAdd]
            refine wpM_val ?u12 rfl rfl St2.refl (fun w' hD => ?h12) ?n12
            case h12 =>
              obtain ⟨d0, d1, d2, d3, d4, d5, d6, d7⟩ := FX.out w' hD.1
              go_simp; rfl
            simp only [Act.put, List.setIfInBounds_toArray, List.set_cons_succ, List.set_cons_zero, Nat.reduceAdd]
            refine wpM_val ?u13 rfl rfl St2.refl (fun w' hD => ?h13) ?n13
            case h13 =>
              obtain ⟨d0, d1, d2, d3, d4, d5, d6, d7⟩ := FX.out w' hD.1
              go_simp; rfl
            simp only [Act.put, List.setIfInBounds_toArray, List.set_cons_succ, List.set_cons_zero, Nat.reduceAdd]
            refine wpM_val ?u14 rfl rfl St2.refl (fun w' hD => ?h14) ?n14
            case h14 =>
              obtain ⟨d0, d1, d2, d3, d4, d5, d6, d7⟩ := FX.out w' hD.1
              go_simp; rfl
            simp only [Act.put, List.setIfInBounds_toArray, List.set_cons_succ, List.set_cons_zero, Nat.reduceAdd]
            refine wpM_op _ rfl rfl (opens_skip (fun w' hD => ?r15)) (fun v15 hv15 => ?m15)
            case r15 =>
              obtain ⟨d0, d1, d2, d3, d4, d5, d6, d7⟩ := FX.out w' hD.1
              obtain ⟨u1, hu1⟩ := Option.isSome_iff_exists.1 d4
              refine ⟨w'.setCell ⟨w2.heap.size + 1, tn, none⟩ (.int .i64 (s.sm fn + m)), ?_, St2.store1 d4 (by show w.heap.size ≤ w2.heap.size + 1; omega) hpp, rfl, World.cell?_setCell_same' _ _ _ d4⟩
              go_simp
            obtain ⟨_, _, _, rfl, _⟩ := hv15
            simp only [Act.put, List.setIfInBounds_toArray, List.set_cons_succ, List.set_cons_zero, Nat.reduceAdd]
            refine wpM_val ?u16 rfl rfl St2.refl (fun w' hD => ?h16) ?n16
            case h16 =>
              obtain ⟨d0, d1, d2, d3, d4, d5, d6, d7⟩ := FX.out w' hD.1
              go_simp; rfl
            simp only [Act.put, List.setIfInBounds_toArray, List.set_cons_succ, List.set_cons_zero, Nat.reduceAdd]
            refine wpM_op _ rfl rfl (opens_skip (fun w' hD => ?r17)) (fun v17 hv17 => ?m17)
            case r17 =>
              obtain ⟨d0, d1, d2, d3, d4, d5, d6, d7⟩ := FX.out w' hD.1
              obtain ⟨u1, hu1⟩ := Option.isSome_iff_exists.1 d5
              refine ⟨w'.setCell ⟨w2.heap.size, tn, none⟩ (.int .i64 (k : Int)), ?_, St2.store2 d5 (by show w.heap.size ≤ w2.heap.size; omega) hpp, rfl, World.cell?_setCell_same' _ _ _ d5⟩
              go_simp
            obtain ⟨_, _, _, rfl, _⟩ := hv17
            simp only [Act.put, List.setIfInBounds_toArray, List.set_cons_succ, List.set_cons_zero, Nat.reduceAdd]
            refine wpM_val ?u18 rfl rfl St2.refl (fun w' hD => ?h18) ?n18
            case h18 =>
              obtain ⟨d0, d1, d2, d3, d4, d5, d6, d7⟩ := FX.out w' hD.1
              go_simp; rfl
            simp only [Act.put, List.setIfInBounds_toArray, List.set_cons_succ, List.set_cons_zero, Nat.reduceAdd]
            refine wpM_nil ?_
            intro w9 hw9 hF9
            have hS4 := hSb.st1 hw9 (by omega) (hF9 15).2.2
            have hY4 : RowN w9 w2.heap.size 8 (fun x => ((upd1 s.by_ tn k x : Nat) : Int)) := (hYb.st2 hw9 (by omega) (hF9 17).2.2).congr fun j _ => by
              unfold upd1; split <;> rfl
            have hbe3 := hbb.trans hw9.ce2
            go_wp2
            go_roundw
            case rel => exact ⟨k + 1, ⟨upd1 s.sm tn (s.sm fn + m), upd1 s.by_ tn k, tn⟩, by omega, by go_num, rfl, hst, hS4, hY4, hbe3, HX⟩
            case measure => simp [intOf]; omega
          · rw [rstep_no hless] at HX hst
            have hless' : ¬ s.sm fn + m < s.sm tn := hless
            go_wp2
            go_roundw
            case rel => exact ⟨k + 1, s, by omega, by go_num, rfl, hst, hSb, hYb, hbb, HX⟩
            case measure => simp [intOf]; omega
        · have hltk' : ¬ (k : Int) < (c.all.length : Int) := by omega
          have HX : Hid (rrun (numFrom 0 c.all) (9 - (r + 1)) s = endR c.all) := by
            unfold Hid; rw [← HF.out, numFrom_dropEnd c.all 0 k (by omega)]; rfl
          clear HF
          go_wp2
          go_roundw
          case rel => exact ⟨r + 1, s, by omega, by go_num, rfl, hinv.mono (by omega), hS, hY, hbe, HX⟩
          case measure => simp [intOf]; omega
    · have hlt' : ¬ (r : Int) < 9 := by omega
      have HE : Hid (s = endR c.all) := by unfold Hid; rw [← HF.out, show 9 - r = 0 by omega]; rfl
      clear HF
      have hBr := hBo.ce2 hbe hA'
      have hprd : ∀ x, x < 8 → ∃ (y : Bd) (bb boff : Nat), c.all[s.by_ x]? = some y ∧ A' = some ⟨bb, boff, none⟩ ∧ wr.cell? ⟨bb, boff + s.by_ x * 3, none⟩ = some (.int .i64 y.f) ∧ predR c.all s x = y.f.toNat ∧ 0 ≤ y.f ∧ y.f < 8 := by
        intro x hx
        obtain ⟨y, hy⟩ := get_of_lt c.all (s.by_ x) (hinv.2.1 x)
        obtain ⟨bb, boff, e1, e2, _, _⟩ := hBr.at_ hy
        obtain ⟨⟨f0, f8⟩, _⟩ := HOK.out y (mem_of_get hy)
        exact ⟨y, bb, boff, hy, e1, e2, by unfold predR; rw [hy]; rfl, f0, f8⟩
      have HPRD := hid hprd
      clear hprd
      have hlast := hinv.2.2
      have HST : Hid (iterN (predR c.all s) (8 - 0) s.last = startR c.all) := by unfold Hid startR; rw [← HE.out]
      go_wp2
      go_loop [9, 68] (fun la i => ∃ (j x : Nat), j ≤ 8 ∧ i = .int .i64 (j : Int) ∧ la = .int .i64 (x : Int) ∧ x < 8 ∧ Hid (iterN (predR c.all s) (8 - j) x = startR c.all)) (fun _ i => 8 - (intOf i).toNat)
      case atStart => exact ⟨0, s.last, by omega, rfl, rfl, hlast, HST⟩
      case round =>
        obtain ⟨j, x, hj, rfl, rfl, hx8, HST⟩ := hrel
        by_cases hltj : j < 8
        · have hltj' : (j : Int) < 8 := by omega
          obtain ⟨y, bb, boff, hy, rfl, e0, ep, y0, y8⟩ := HPRD.out x hx8
          have hby := (hY x hx8).1
          have hbl := hinv.2.1 x
          have hbl' : (s.by_ x : Int) < (c.all.length : Int) := by omega
          have hx8' : (x : Int) < 8 := by omega
          have HST2 : Hid (iterN (predR c.all s) (8 - (j + 1)) (predR c.all s x) = startR c.all) := by
            unfold Hid; rw [← HST.out, show 8 - j = (8 - (j + 1)) + 1 by omega]; rfl
          have HEP := hid ep
          clear HST hy ep
          go_wp2
          go_round
          case rel => exact ⟨j + 1, predR c.all s x, by omega, by go_num, by rw [HEP.out]; exact int_of (by omega), by rw [HEP.out]; omega, HST2⟩
          case measure => simp [intOf]; omega
        · have hltj' : ¬ (j : Int) < 8 := by omega
          have HX : Hid (x = startR c.all) := by unfold Hid; rw [← HST.out, show 8 - j = 0 by omega]; rfl
          clear HST
          obtain ⟨y, bb, boff, hy, rfl, e0, ep, y0, y8⟩ := HPRD.out x hx8
          have hby := (hY x hx8).1
          have hbl := hinv.2.1 x
          have hbl' : (s.by_ x : Int) < (c.all.length : Int) := by omega
          have hx8' : (x : Int) < 8 := by omega
          have ho0 : (wr.alloc (.cells #[.int .i64 (s.by_ x : Int)] 3)).ownsRow wr.heap.size 3 1 (.slice (some ⟨wr.heap.size, 0, none⟩) 1 1) 1 ([(s.by_ x : Int)].map (Value.int .i64)) :=
            World.ownsRow_lit wr #[.int .i64 (s.by_ x : Int)] 1 (Nat.le_refl _) (by simp [maxLen]) rfl
          have hxo := Ext.alloc (Ext.refl wr) (.cells #[.int .i64 (s.by_ x : Int)] 3)
          have hby2 := hxo.cell hby
          have e02 := hxo.cell e0
          clear hy
          have hfl : ∀ z, z < 8 → predR c.all s z < 8 := fun z hz => by
            obtain ⟨y', _, _, _, _, _, ep', y0', y8'⟩ := HPRD.out z hz
            rw [ep']; omega
          have hcyc : ∃ k, 1 ≤ k ∧ k ≤ 8 ∧ iterN (predR c.all s) k x = x := by
            have h1 := cycle8 hfl hlast
            have h2 : iterN (predR c.all s) 8 s.last = x := HST.out.trans HX.out.symm
            rw [h2] at h1; exact h1
          obtain ⟨kc, kc1, kc8, hkc⟩ := hcyc
          have hkc' : iterN (predR c.all s) (kc - 1) (predR c.all s x) = x := by
            have : iterN (predR c.all s) ((kc - 1) + 1) x = x := by rw [show kc - 1 + 1 = kc by omega]; exact hkc
            exact this
          have hRB : Hid (([(s.by_ x : Int)] ++ (pathR (predR c.all s) x (9 - 1) (predR c.all s x)).map fun z => (s.by_ z : Int)) = ringBack c.all) := by
            unfold Hid ringBack
            rw [← HE.out, ← HX.out]; rfl
          have HKC := hid hkc'
          have HEP := hid ep
          have HFL := hid hfl
          clear hkc hkc' HST hfl ep
          go_wp2
          obtain ⟨wo, rfl⟩ : ∃ wo : World, wo = wr := ⟨_, rfl⟩
          go_loopg [12, 13] (kc - 1) (fun d o at_ wr => ∃ (don : List Int) (z g cc : Nat), o = .slice (some ⟨g, 0, none⟩) don.length cc ∧ at_ = .int .i64 (z : Int) ∧ z < 8 ∧ d + don.length ≤ 8 ∧ Hid (iterN (predR c.all s) d z = x) ∧
            Hid ((don ++ (pathR (predR c.all s) x (9 - don.length) z).map fun z => (s.by_ z : Int)) = ringBack c.all) ∧ wr.ownsRow wo.heap.size 3 1 (.slice (some ⟨g, 0, none⟩) don.length cc) don.length (don.map (Value.int .i64)) ∧ Ext wo wr)
          case atStart => exact ⟨[(s.by_ x : Int)], predR c.all s x, wo.heap.size, 1, rfl, by rw [HEP.out]; exact int_of (by omega), HFL.out x hx8, by simp; omega, HKC, hRB, ho0, hxo⟩
          case round =>
            obtain ⟨don, z, g, cc, rfl, rfl, hz8, hd8, hit, hrb, hown, hx4⟩ := hrel
            have hYz := hx4.cell (hY z hz8).1
            have hbl2 := hinv.2.1 z
            have hbl2' : (s.by_ z : Int) < (c.all.length : Int) := by omega
            have hz8' : (z : Int) < 8 := by omega
            by_cases hzx : z = x
            · subst hzx
              have hdn : don = ringBack c.all := by
                rw [← hrb.out]
                cases h9 : 9 - don.length with
                | zero => simp [pathR]
                | succ n => simp [pathR]
              have hrow : RowN wr g don.length (fun j => don.getD j 0) := by
                intro j hj
                refine ⟨?_, hown.frozenAt j⟩
                rw [hown.cellAt j (by omega)]
                simp [List.getD, List.getElem?_eq_getElem hj]
              have hRV := hid (reverse_any g don.length cc _ wr hrow (by omega))
              have hgB : wo.heap.size ≤ g := (hown.lt g rfl).1
              have hXw : Ext w wo := Below.trans hX0 hbe.1
              have HDN := hid hdn
              clear hrb hown hrow hdn
              go_wp2_with fail
              refine hRV.out.mono ?_
              rintro e w5 ⟨⟨v5, rfl⟩, hb5, hr5⟩
              have hfin : Ext w w5 := (hXw.trans hx4).then_bel (by have := hXw.size; omega) hb5
              have hints : Ints w5 (some ⟨g, 0, none⟩) (ringL c.all) := by
                unfold ringL
                rw [← HDN.out]
                refine .inr ⟨g, 0, rfl, fun j u hu => ?_⟩
                rw [Nat.zero_add]
                rw [List.getElem?_map, Option.map_eq_some_iff] at hu
                obtain ⟨q, hq, rfl⟩ := hu
                have hj : j < don.length := by have := (List.getElem?_eq_some_iff.1 hq).1; simpa using this
                rw [(hr5 j hj).1]
                rw [List.getElem?_reverse hj] at hq
                simp [List.getD, hq]
              have hlen : (ringL c.all).length = don.length := by unfold ringL; rw [← HDN.out]; simp
              go_wp2
              go_ret2
              exact ⟨.slice (some ⟨g, 0, none⟩) don.length cc, by rw [HQ.out]; rfl, hfin, fun h => absurd HQ.out h, fun _ => ⟨g, cc, by rw [hlen], hints⟩⟩
            · have hzx' : ¬ (z : Int) = (x : Int) := by omega
              obtain ⟨y2, bb2, boff2, hy2, hA2, e02b, ep2, y02, y82⟩ := HPRD.out z hz8
              cases hA2
              have e4 := hx4.cell e02b
              have hit2 : ∃ d2, gk = d2 + 1 := by
                rcases Nat.eq_zero_or_pos gk with h0 | h0
                · rw [h0] at hit; exact absurd hit.out hzx
                · exact ⟨gk - 1, by omega⟩
              obtain ⟨d2, hgk⟩ := hit2
              have HIT : Hid (iterN (predR c.all s) d2 (predR c.all s z) = x) := by
                rw [hgk] at hit; exact hit.out
              have hgk2 : d2 < gk := by omega
              have hgk3 : d2 + 1 ≤ gk := hgk2
              clear hgk
              have HRB : Hid ((don ++ [(s.by_ z : Int)]) ++ (pathR (predR c.all s) x (9 - (don ++ [(s.by_ z : Int)]).length) (predR c.all s z)).map (fun q => (s.by_ q : Int)) = ringBack c.all) := by
                unfold Hid
                rw [← hrb.out, show 9 - don.length = (9 - (don.length + 1)) + 1 by omega]
                simp only [pathR, if_neg hzx, List.map_cons, List.append_assoc, List.singleton_append, List.length_append, List.length_cons, List.length_nil, Nat.zero_add]
              have HOW := hid hown
              have HEP2 := hid ep2
              have hsz4 := hx4.size
              clear hit hrb hown hy2 ep2
              go_wp2_with (at_builtin; refine wpList_append_rd _ rfl _ _ 27 rfl elem_int wo.heap.size _ don.length (don.map (Value.int .i64)) rfl (own_below HOW.out (Ext.alloc (Ext.refl wr) _)) _ 1 1 [.int .i64 (s.by_ z : Int)] rfl rfl ?qr (by intro u hu; simp at hu; subst hu; rfl) (by omega) ?qb ?_)
              case qr => exact .inr ⟨wr.heap.size, 0, rfl, fun j u hu => by
                match j with
                | 0 => cases hu; simp [go_sem]
                | j + 1 => simp at hu⟩
              case qb => first | omega | (simp; omega)
              intro A5 c5 w5 hown5 hbel5 _ _
              have hx5 : Ext wo w5 := Below.trans (Ext.alloc hx4 _) hbel5
              obtain ⟨g5, rfl⟩ : ∃ g5, A5 = some ⟨g5, 0, none⟩ := by
                rcases hown5.2 with ⟨h, h0⟩ | ⟨g5, cap5, cur5, h, _⟩
                · omega
                · cases h; exact ⟨g5, rfl⟩
              have hY5 := hx5.cell (hY z hz8).1
              have e5 := hx5.cell e02b
              have HO5 : Hid (w5.ownsRow wo.heap.size 3 1 (.slice (some ⟨g5, 0, none⟩) (don ++ [(s.by_ z : Int)]).length c5) (don ++ [(s.by_ z : Int)]).length ((don ++ [(s.by_ z : Int)]).map (Value.int .i64))) := by
                unfold Hid; simpa using hown5
              clear hown5
              go_wp2
              go_roundg d2
              case measure => omega
              case rel => exact ⟨don ++ [(s.by_ z : Int)], predR c.all s z, g5, c5, by simp, by rw [HEP2.out]; exact int_of (by omega), HFL.out z hz8, by simp; omega, HIT, HRB, HO5.out, hx5⟩
end Go.Proofs.Ytgnjhaomlbkgcaa
