/- The walk of fog.Still. Printed by my gen_fstill.py. -/
import Derived.Test.YtpbpcplboikpcaaGreatFMet
import Derived.Test.YtpbpcplboikpcaaGreatFRest
namespace Go.Proofs.YtpbpcplboikpcaaGreat
open Go Go.RowKit Go.Shelf Go.Maps
set_option linter.unusedVariables false
set_option linter.unusedSimpArgs false
attribute [local go_sem] Oper.semAt_some

def stillE (f : Fg) (k : Int) : Int := if cartE f k ≠ 0 then cartE f k else if lostF (farM f) f (ctAt f k) then 7 else 0
def stillV (f : Fg) (k : Int) : Int := if stillE f k = 0 then stillM (farM f) f (ctAt f k) else 0
def StillPost (w : World) (f : Fg) (k : Int) (e : Ending) (w' : World) : Prop := e = .returned (.tuple #[.int .i64 (stillV f k), .int .i64 (stillE f k)]) ∧ Ext w w'

/-! ### What the map holds on the way -/
/-- So many minutes are done, and so many places of the next one. -/
def stV (g : Mat) (f : Fg) (c : Ct) (n0 j m p : Nat) : Int :=
  if m ≤ f.mi.toNat ∧ ((f.mi.toNat < m + n0 ∧ p ∈ canN g f c m) ∨ (f.mi.toNat = m + n0 ∧ p ∈ (canN g f c m).take j)) then mostAt g f c m p else 0
section
variable {g : Mat} {f : Fg} {c : Ct}
theorem stV_start : (fun _ _ => 0 : Nat → Nat → Int) = stV g f c 0 0 := by
  funext m p
  unfold stV
  rw [if_neg]
  rintro ⟨h1, h2 | h2⟩
  · omega
  · simp at h2
theorem stV_row (n0 : Nat) {j : Nat} (h : ∀ m, f.mi.toNat = m + n0 → (canN g f c m).length ≤ j) : stV g f c n0 j = stV g f c (n0 + 1) 0 := by
  funext m p
  unfold stV
  refine ite_iff ?_ _ _
  constructor
  · rintro ⟨h1, h2 | h2⟩
    · exact ⟨h1, .inl ⟨by omega, h2.2⟩⟩
    · exact ⟨h1, .inl ⟨by omega, List.mem_of_mem_take h2.2⟩⟩
  · rintro ⟨h1, h2 | h2⟩
    · by_cases e : f.mi.toNat < m + n0
      · exact ⟨h1, .inl ⟨e, h2.2⟩⟩
      · have e2 : f.mi.toNat = m + n0 := by omega
        refine ⟨h1, .inr ⟨e2, ?_⟩⟩
        rw [List.take_of_length_le (h m e2)]
        exact h2.2
    · simp at h2
theorem stV_done {n0 j m p : Nat} (hm : m ≤ f.mi.toNat) (h : f.mi.toNat < m + n0) (hp : p ∈ canN g f c m) : stV g f c n0 j m p = mostAt g f c m p := by
  unfold stV; rw [if_pos ⟨hm, .inl ⟨h, hp⟩⟩]
theorem stV_next {n0 j m p : Nat} (h : f.mi.toNat = m + n0) (hp : (canN g f c m)[j]? = some p) : updS (stV g f c n0 j) m p (mostAt g f c m p) = stV g f c n0 (j + 1) := by
  obtain ⟨h1, h2⟩ := List.getElem?_eq_some_iff.1 hp
  funext a b
  unfold updS stV
  by_cases e : a = m ∧ b = p
  · obtain ⟨rfl, rfl⟩ := e
    rw [if_pos ⟨rfl, rfl⟩, if_pos]
    refine ⟨by omega, .inr ⟨h, ?_⟩⟩
    rw [List.take_succ_eq_append_getElem h1, h2]
    simp
  · rw [if_neg e]
    refine ite_iff ?_ _ _
    constructor
    · rintro ⟨q1, q2 | q2⟩
      · exact ⟨q1, .inl q2⟩
      · refine ⟨q1, .inr ⟨q2.1, ?_⟩⟩
        rw [List.mem_take_iff_getElem] at q2 ⊢
        obtain ⟨-, i, hi, he⟩ := q2
        exact ⟨i, by omega, he⟩
    · rintro ⟨q1, q2 | q2⟩
      · exact ⟨q1, .inl q2⟩
      · refine ⟨q1, .inr ⟨q2.1, ?_⟩⟩
        have ha : a = m := by omega
        subst ha
        have := q2.2
        rw [List.take_succ_eq_append_getElem h1, h2] at this
        rcases List.mem_append.1 this with h | h
        · exact h
        · simp only [List.mem_singleton] at h
          exact absurd ⟨rfl, h⟩ e
/-- What `out` holds when so many minutes are done, and so many places of the next one. -/
def outV (g : Mat) (f : Fg) (c : Ct) (n0 j : Nat) : Int :=
  if n0 = f.mi.toNat then maxF ((canN g f c 0).take j) (fun _ => true) (bestAt g f c 0) 0 else if n0 = f.mi.toNat + 1 then stillM g f c else 0
theorem outV_start : outV g f c 0 0 = 0 := by
  unfold outV
  split
  · rfl
  · rw [if_neg (by omega)]
theorem outV_row {n0 j : Nat} (hn : n0 ≤ f.mi.toNat) (h : n0 = f.mi.toNat → (canN g f c 0).length ≤ j) : outV g f c n0 j = outV g f c (n0 + 1) 0 := by
  unfold outV
  by_cases e : n0 = f.mi.toNat
  · rw [if_pos e, List.take_of_length_le (h e), if_neg (by omega), if_pos (by omega)]
    rfl
  · rw [if_neg e, if_neg (by omega)]
    by_cases e2 : n0 + 1 = f.mi.toNat
    · rw [if_pos e2]; rfl
    · rw [if_neg e2, if_neg (by omega)]
theorem outV_end : outV g f c (f.mi.toNat + 1) 0 = stillM g f c := by
  unfold outV; rw [if_neg (by omega), if_pos rfl]
theorem outV_max {j p : Nat} (h : (canN g f c 0)[j]? = some p) : outV g f c f.mi.toNat (j + 1) = max (outV g f c f.mi.toNat j) (bestAt g f c 0 p) := by
  unfold outV
  rw [if_pos rfl, if_pos rfl, maxF_take h, if_pos rfl]
theorem outV_same {n0 j : Nat} (h : n0 < f.mi.toNat) : outV g f c n0 (j + 1) = outV g f c n0 j := by
  unfold outV
  rw [if_neg (by omega), if_neg (by omega), if_neg (by omega)]
  try rw [if_neg (by omega)]
theorem outV_le {n0 j : Nat} : 0 ≤ outV g f c n0 j ∧ outV g f c n0 j ≤ f.mi.toNat := by
  have key : ∀ l : List Nat, 0 ≤ maxF l (fun _ => true) (bestAt g f c 0) 0 ∧ maxF l (fun _ => true) (bestAt g f c 0) 0 ≤ f.mi.toNat := fun l => by
    obtain ⟨h1, -, h3⟩ := maxF_spec (fun _ => true) (bestAt g f c 0) l 0
    refine ⟨h1, ?_⟩
    rcases h3 with h | ⟨x, _, _, he⟩
    · rw [h]; omega
    · rw [he]; exact (best_le 0 x).2
  unfold outV
  split
  · exact key _
  · split
    · exact key _
    · omega
end

/-- The row of numbers that a range leaves behind: a box. -/
theorem Box8.set {W : World} {B : Nat} {x : Int} (h : Box8 W B x) (y : Int) : Box8 (W.setCell ⟨B, 0, none⟩ (.int .i64 y)) B y := by
  unfold Box8 at h ⊢
  simp [World.setCell, Array.getElem?_modify, h]
theorem Box8.new (W : World) (x : Int) : Box8 (W.alloc (.cells #[.int .i64 x] 3)) W.heap.size x := World.alloc_heap_new W (.cells #[.int .i64 x] 3)
theorem Box8.nodef {W : World} {B : Nat} {x : Int} (h : Box8 W B x) : ∀ y, W.heap[B]? ≠ some (.deferred y) := fun y e => by unfold Box8 at h; rw [h] at e; cases e
theorem Box8.lt {W : World} {B : Nat} {x : Int} (h : Box8 W B x) : B < W.heap.size := (Array.getElem?_eq_some_iff.1 h).1
theorem own_box {β : Type} {B X : Nat} (hX : X < B) (v : β → Int) : OwnFrom B (fun s W => Box8 W X (v s)) := fun s Y Z row hs hg hrow =>
  (hg.block X hs.lt (fun e => by have := (hrow X e.symm).1; omega)).trans hs
theorem Bel.over {D X : Nat} {a b c : World} (h : Bel D a b) (k : Bel X b c) (hX : a.heap.size ≤ X) : Bel D a c :=
  ⟨h.1.trans k.1, fun i hi hD => (k.2 i (Nat.lt_of_lt_of_le hi h.size) (by omega)).trans (h.2 i hi hD)⟩
/-- The best of the places that have been gone through. -/
def bestV (g : Mat) (f : Fg) (c : Ct) (m p : Nat) (l : List Nat) : Int := if m < f.mi.toNat then maxF l (inCan g f c (m + 1)) (fun q => stay1 p q + mostAt g f c (m + 1) q) (-1) else -1
theorem bestV_all {g : Mat} {f : Fg} {c : Ct} {m p : Nat} : bestV g f c m p (nxt g f.pl.toNat p) = bestAt g f c m p := rfl
def bestNP (g : Mat) (f : Fg) (c : Ct) (m p : Nat) (pre : List (NP (nxt g f.pl.toNat p))) : Int := bestV g f c m p (pre.map (·.1))
theorem bestV_nil {g : Mat} {f : Fg} {c : Ct} {m p : Nat} : bestV g f c m p [] = -1 := by unfold bestV; split <;> rfl
theorem bestV_le {g : Mat} {f : Fg} {c : Ct} (m p : Nat) (l : List Nat) : -1 ≤ bestV g f c m p l ∧ bestV g f c m p l ≤ f.mi.toNat := by
  unfold bestV
  split
  · obtain ⟨h1, -, h3⟩ := maxF_spec (inCan g f c (m + 1)) (fun q => stay1 p q + mostAt g f c (m + 1) q) l (-1)
    refine ⟨h1, ?_⟩
    rcases h3 with h | ⟨x, _, _, he⟩
    · rw [h]; omega
    · rw [he]
      have h4 := most_le (g := g) (f := f) (c := c) (f.mi.toNat - (m + 1)) x
      have h5 := stay_nn p x
      unfold mostAt
      omega
  · omega
theorem slotsN (a : Array Value) (h : a.size = 97) : a = List.toArray (a.getD 0 undef :: a.getD 1 undef :: a.getD 2 undef :: a.getD 3 undef :: a.getD 4 undef :: a.getD 5 undef :: a.getD 6 undef :: a.getD 7 undef :: a.getD 8 undef :: a.getD 9 undef :: a.getD 10 undef :: a.getD 11 undef :: a.getD 12 undef :: a.getD 13 undef :: a.getD 14 undef :: a.getD 15 undef :: a.getD 16 undef :: a.getD 17 undef :: a.getD 18 undef :: a.getD 19 undef :: a.getD 20 undef :: a.getD 21 undef :: a.getD 22 undef :: a.getD 23 undef :: a.getD 24 undef :: a.getD 25 undef :: a.getD 26 undef :: a.getD 27 undef :: a.getD 28 undef :: a.getD 29 undef :: a.getD 30 undef :: a.getD 31 undef :: a.getD 32 undef :: a.getD 33 undef :: a.getD 34 undef :: a.getD 35 undef :: a.getD 36 undef :: a.getD 37 undef :: a.getD 38 undef :: a.getD 39 undef :: a.getD 40 undef :: a.getD 41 undef :: a.getD 42 undef :: a.getD 43 undef :: a.getD 44 undef :: a.getD 45 undef :: a.getD 46 undef :: a.getD 47 undef :: a.getD 48 undef :: a.getD 49 undef :: a.getD 50 undef :: a.getD 51 undef :: a.getD 52 undef :: a.getD 53 undef :: a.getD 54 undef :: a.getD 55 undef :: a.getD 56 undef :: a.getD 57 undef :: a.getD 58 undef :: a.getD 59 undef :: a.getD 60 undef :: a.getD 61 undef :: a.getD 62 undef :: a.getD 63 undef :: a.getD 64 undef :: a.getD 65 undef :: a.getD 66 undef :: a.getD 67 undef :: a.getD 68 undef :: a.getD 69 undef :: a.getD 70 undef :: a.getD 71 undef :: a.getD 72 undef :: a.getD 73 undef :: a.getD 74 undef :: a.getD 75 undef :: a.getD 76 undef :: a.getD 77 undef :: a.getD 78 undef :: a.getD 79 undef :: a.getD 80 undef :: a.getD 81 undef :: a.getD 82 undef :: a.getD 83 undef :: a.getD 84 undef :: a.getD 85 undef :: a.getD 86 undef :: a.getD 87 undef :: a.getD 88 undef :: a.getD 89 undef :: a.getD 90 undef :: a.getD 91 undef :: a.getD 92 undef :: a.getD 93 undef :: a.getD 94 undef :: a.getD 95 undef :: a.getD 96 undef :: []) := by
  have key : ∀ l : List Value, l.length = 97 → l = (List.range 97).map fun i => (List.toArray l).getD i undef := fun l hl => by
    apply List.ext_getElem
    · simp [hl]
    · intro i h1 h2
      simp [Array.getD, h1]
  obtain ⟨l⟩ := a
  exact congrArg List.toArray ((key l h).trans (by rfl))
def StI (w w2 W1 : World) (D M : Nat) (f : Fg) (c : Ct) (act : Act) (W : World) : Prop := ∃ (n0 B11 : Nat) (OV : Int) (ds : List Deferred), act.defers = ds ∧ act.tmps.size = 97 ∧ (act.tmps.getD 2 undef = .pointer (some ⟨w.heap.size, 0, none⟩) ∧ act.tmps.getD 6 undef = .pointer (some ⟨D, 0, none⟩) ∧ act.tmps.getD 8 undef = .pointer (some ⟨w2.heap.size, 0, none⟩) ∧ act.tmps.getD 9 undef = .pointer (some ⟨w2.heap.size + 1 + 1, 0, none⟩) ∧ act.tmps.getD 10 undef = .int .i64 OV ∧ act.tmps.getD 11 undef = .pointer (some ⟨B11, 0, none⟩)) ∧ OV = outV (farM f) f c n0 0 ∧ n0 ≤ M + 1 ∧ W1.heap.size ≤ B11 ∧ Box8 W B11 ((M : Int) - (n0 : Int)) ∧ MapSp W (w2.heap.size + 1) (n0 * 200) (stV (farM f) f c n0 0) ∧ Bel (w2.heap.size + 1) W1 W ∧ Marks w.heap.size ds W
theorem StI.elim {w w2 W1 : World} {D M : Nat} {f : Fg} {c : Ct} {act : Act} {W : World} {Q : Prop} (h : StI w w2 W1 D M f c act W)
    (k : ∀ (n0 B11 : Nat) (OV : Int) (y : Nat → Value) (ds : List Deferred), act = { tmps := (List.toArray (y 0 :: y 1 :: (.pointer (some ⟨w.heap.size, 0, none⟩)) :: y 3 :: y 4 :: y 5 :: (.pointer (some ⟨D, 0, none⟩)) :: y 7 :: (.pointer (some ⟨w2.heap.size, 0, none⟩)) :: (.pointer (some ⟨w2.heap.size + 1 + 1, 0, none⟩)) :: (.int .i64 OV) :: (.pointer (some ⟨B11, 0, none⟩)) :: y 12 :: y 13 :: y 14 :: y 15 :: y 16 :: y 17 :: y 18 :: y 19 :: y 20 :: y 21 :: y 22 :: y 23 :: y 24 :: y 25 :: y 26 :: y 27 :: y 28 :: y 29 :: y 30 :: y 31 :: y 32 :: y 33 :: y 34 :: y 35 :: y 36 :: y 37 :: y 38 :: y 39 :: y 40 :: y 41 :: y 42 :: y 43 :: y 44 :: y 45 :: y 46 :: y 47 :: y 48 :: y 49 :: y 50 :: y 51 :: y 52 :: y 53 :: y 54 :: y 55 :: y 56 :: y 57 :: y 58 :: y 59 :: y 60 :: y 61 :: y 62 :: y 63 :: y 64 :: y 65 :: y 66 :: y 67 :: y 68 :: y 69 :: y 70 :: y 71 :: y 72 :: y 73 :: y 74 :: y 75 :: y 76 :: y 77 :: y 78 :: y 79 :: y 80 :: y 81 :: y 82 :: y 83 :: y 84 :: y 85 :: y 86 :: y 87 :: y 88 :: y 89 :: y 90 :: y 91 :: y 92 :: y 93 :: y 94 :: y 95 :: y 96 :: [])), defers := ds } → OV = outV (farM f) f c n0 0 → n0 ≤ M + 1 → W1.heap.size ≤ B11 → Box8 W B11 ((M : Int) - (n0 : Int)) → MapSp W (w2.heap.size + 1) (n0 * 200) (stV (farM f) f c n0 0) → Bel (w2.heap.size + 1) W1 W → Marks w.heap.size ds W → Q) : Q := by
  obtain ⟨n0, B11, OV, ds, e, hsz, ⟨s2, s6, s8, s9, s10, s11⟩, h0, h1, h2, h3, h4, h5, h6⟩ := h
  have e2 := slotsN act.tmps hsz
  rw [s2, s6, s8, s9, s10, s11] at e2
  exact k n0 B11 OV (fun i => act.tmps.getD i undef) ds (by obtain ⟨t, d⟩ := act; exact congr (congrArg Act.mk e2) e) h0 h1 h2 h3 h4 h5 h6
def StJ (w w2 W : World) (D m n0 B11 k7 : Nat) (A7 : Option Addr) (f : Fg) (c : Ct) (act : Act) (V : World) : Prop := ∃ (j : Nat) (OV : Int) (ds : List Deferred), act.defers = ds ∧ act.tmps.size = 97 ∧ (act.tmps.getD 2 undef = .pointer (some ⟨w.heap.size, 0, none⟩) ∧ act.tmps.getD 6 undef = .pointer (some ⟨D, 0, none⟩) ∧ act.tmps.getD 8 undef = .pointer (some ⟨w2.heap.size, 0, none⟩) ∧ act.tmps.getD 9 undef = .pointer (some ⟨w2.heap.size + 1 + 1, 0, none⟩) ∧ act.tmps.getD 10 undef = .int .i64 OV ∧ act.tmps.getD 11 undef = .pointer (some ⟨B11, 0, none⟩) ∧ act.tmps.getD 46 undef = .slice A7 (canN (farM f) f c m).length k7 ∧ act.tmps.getD 47 undef = .int .i64 ((canN (farM f) f c m).length : Int) ∧ act.tmps.getD 48 undef = .int .i64 (j : Int)) ∧ OV = outV (farM f) f c n0 j ∧ j ≤ (canN (farM f) f c m).length ∧ MapSp V (w2.heap.size + 1) (n0 * 200 + j * 20) (stV (farM f) f c n0 j) ∧ Bel (w2.heap.size + 1) W V ∧ Marks w.heap.size ds V
theorem StJ.elim {w w2 W : World} {D m n0 B11 k7 : Nat} {A7 : Option Addr} {f : Fg} {c : Ct} {act : Act} {V : World} {Q : Prop} (h : StJ w w2 W D m n0 B11 k7 A7 f c act V)
    (k : ∀ (j : Nat) (OV : Int) (y : Nat → Value) (ds : List Deferred), act = { tmps := (List.toArray (y 0 :: y 1 :: (.pointer (some ⟨w.heap.size, 0, none⟩)) :: y 3 :: y 4 :: y 5 :: (.pointer (some ⟨D, 0, none⟩)) :: y 7 :: (.pointer (some ⟨w2.heap.size, 0, none⟩)) :: (.pointer (some ⟨w2.heap.size + 1 + 1, 0, none⟩)) :: (.int .i64 OV) :: (.pointer (some ⟨B11, 0, none⟩)) :: y 12 :: y 13 :: y 14 :: y 15 :: y 16 :: y 17 :: y 18 :: y 19 :: y 20 :: y 21 :: y 22 :: y 23 :: y 24 :: y 25 :: y 26 :: y 27 :: y 28 :: y 29 :: y 30 :: y 31 :: y 32 :: y 33 :: y 34 :: y 35 :: y 36 :: y 37 :: y 38 :: y 39 :: y 40 :: y 41 :: y 42 :: y 43 :: y 44 :: y 45 :: (.slice A7 (canN (farM f) f c m).length k7) :: (.int .i64 ((canN (farM f) f c m).length : Int)) :: (.int .i64 (j : Int)) :: y 49 :: y 50 :: y 51 :: y 52 :: y 53 :: y 54 :: y 55 :: y 56 :: y 57 :: y 58 :: y 59 :: y 60 :: y 61 :: y 62 :: y 63 :: y 64 :: y 65 :: y 66 :: y 67 :: y 68 :: y 69 :: y 70 :: y 71 :: y 72 :: y 73 :: y 74 :: y 75 :: y 76 :: y 77 :: y 78 :: y 79 :: y 80 :: y 81 :: y 82 :: y 83 :: y 84 :: y 85 :: y 86 :: y 87 :: y 88 :: y 89 :: y 90 :: y 91 :: y 92 :: y 93 :: y 94 :: y 95 :: y 96 :: [])), defers := ds } → OV = outV (farM f) f c n0 j → j ≤ (canN (farM f) f c m).length → MapSp V (w2.heap.size + 1) (n0 * 200 + j * 20) (stV (farM f) f c n0 j) → Bel (w2.heap.size + 1) W V → Marks w.heap.size ds V → Q) : Q := by
  obtain ⟨j, OV, ds, e, hsz, ⟨s2, s6, s8, s9, s10, s11, s46, s47, s48⟩, h0, h1, h2, h3, h4⟩ := h
  have e2 := slotsN act.tmps hsz
  rw [s2, s6, s8, s9, s10, s11, s46, s47, s48] at e2
  exact k j OV (fun i => act.tmps.getD i undef) ds (by obtain ⟨t, d⟩ := act; exact congr (congrArg Act.mk e2) e) h0 h1 h2 h3 h4

set_option maxRecDepth 100000 in
set_option maxHeartbeats 4000000 in
theorem still_any (v : Value) (f : Fg) (k : Int) (w : World) (hf : FgR w v f) (hs : f.sized) :
    Calls Tryz.prog 56 #[v, .int .i64 k] w (StillPost w f k) := by
  have hmm := @run_makeMap Tryz.prog
  have hnil := @Lib.run_eql_slice_nil Tryz.prog
  obtain ⟨s, rfl, hr⟩ := hf.rows
  obtain ⟨T, hT⟩ : ∃ T, cartE f k = T := ⟨_, rfl⟩
  have HT := hid hT
  clear hT
  have HS := hid hs
  have HX0 : Hid (Ext w (w.alloc (.cells #[.int .i64 f.pl, .int .i64 f.mi, .slice s.a1 f.tr.length s.c1, .slice s.a2 f.bl.length s.c2, .slice s.a3 f.ct.length s.c3] 28))) := Ext.alloc (Ext.refl w) _
  show Calls _ _ #[.agg #[.int .i64 f.pl, .int .i64 f.mi, .slice s.a1 f.tr.length s.c1, .slice s.a2 f.bl.length s.c2, .slice s.a3 f.ct.length s.c3], .int .i64 k] _ _
  refine callsIn_wide (n := 9).1 ?_
  refine callsIn_of_wp_marks Tryz.func56 rfl trivial ?_ rfl
  simp only [Tryz.ntmps56, List.size_toArray, List.length_cons, List.length_nil, Nat.reduceAdd, Nat.reduceSub, Array.replicate_succ, Array.replicate_zero, List.push_toArray, List.append_toArray, List.nil_append, List.cons_append]
  gi_wp2_with fail
  refine ⟨trivial, (callsIn_wide.2 (carted_any (.agg #[.int .i64 f.pl, .int .i64 f.mi, .slice s.a1 f.tr.length s.c1, .slice s.a2 f.bl.length s.c2, .slice s.a3 f.ct.length s.c3]) f k _ (FRows.fg (hr.ext HX0.out)) HS.out)).mono ?_⟩
  rintro e w1 ⟨r, rfl, hb1, hr1, hr2⟩
  have hx1 := HX0.out.trans hb1
  have kc0 := hb1.cell (p := ⟨w.heap.size, 0, none⟩) (u := .int .i64 f.pl) (by simp [go_sem])
  have kc1 := hb1.cell (p := ⟨w.heap.size, 1, none⟩) (u := .int .i64 f.mi) (by simp [go_sem])
  have kc2 := hb1.cell (p := ⟨w.heap.size, 2, none⟩) (u := .slice s.a1 f.tr.length s.c1) (by simp [go_sem])
  have kc3 := hb1.cell (p := ⟨w.heap.size, 3, none⟩) (u := .slice s.a2 f.bl.length s.c2) (by simp [go_sem])
  have kc4 := hb1.cell (p := ⟨w.heap.size, 4, none⟩) (u := .slice s.a3 f.ct.length s.c3) (by simp [go_sem])
  clear HX0 hb1
  rw [HT.out]
  by_cases h0 : T = 0
  case neg =>
    have HE0 : Hid (cartE f k ≠ 0) := by unfold Hid; rw [HT.out]; exact h0
    have hr3 := hr2 HE0.out
    subst hr3
    clear hr1 hr2
    have HN : Hid (stillE f k = T) := by unfold Hid stillE; rw [if_pos HE0.out, HT.out]
    have HV : Hid (stillV f k = 0) := by unfold Hid stillV; rw [HN.out, if_neg h0]
    have hneT := neqE h0
    gi_wp2
    refine leaves_marks (by simp) _ _ (Marks.nil w.heap.size _) fun W' hb hc => ?_
    exact ⟨_, results_tmp2 rfl _ _ _, by rw [HV.out, HN.out]; rfl, Below.trans hx1 hb⟩
  subst h0
  obtain ⟨D, s2, hrD, hdk, hrk⟩ := hr1 HT.out
  subst hrD
  clear hr1 hr2
  obtain ⟨hce, hk0, hk1⟩ := cartE_ok HT.out
  have HOK : Hid (FogOK f) := checkF_ok hce
  obtain ⟨kn, rfl⟩ : ∃ kn : Nat, k = kn := ⟨k.toNat, by omega⟩
  have hkl : kn < f.ct.length := by omega
  have hkl' : (kn : Int) < (f.ct.length : Int) := by omega
  obtain ⟨c, hcg⟩ := get_of_lt f.ct kn hkl
  have HCM : Hid (c ∈ f.ct) := mem_of_get hcg
  have HCA : Hid (ctAt f (kn : Int) = c) := by unfold Hid ctAt; rw [Int.toNat_natCast, List.getD_eq_getElem?_getD, hcg]; rfl
  obtain ⟨cb, co, A1, c1, A2, c2, hA3, cc0, cc1, hCS, hCR, hck1, hck2⟩ := (hr.ct.ext hx1).at_ hcg
  have HA3 := hid hA3
  have HDK := hid hdk
  rw [hA3] at kc4
  rw [HA3.out]
  have hcR : CtR w1 (.agg #[.slice A1 c.st.length c1, .slice A2 c.rp.length c2]) c := ⟨A1, c1, A2, c2, rfl, hCS, hCR, hck1, hck2⟩
  clear hk0 hk1 hce hcg hA3 hkl
  have HCE : Hid (cartE f (kn : Int) = 0) := HT
  have k2 := kc4
  have k3 := cc0
  have k4 := cc1
  gi_wp2_with fail
  refine ⟨trivial, (callsIn_wide.2 (can_any D s2 f (farM f) c (.agg #[.slice A1 c.st.length c1, .slice A2 c.rp.length c2]) w1 HDK.out hrk HOK.out HCM.out hcR)).mono ?_⟩
  rintro e w2 ⟨vv, rfl, hb2, hl1, hl2⟩
  have hx2 := hx1.trans hb2
  cases hl : lostF (farM f) f c
  case true =>
    have e1 := hl1 hl
    subst e1
    have HN : Hid (stillE f kn = 7) := by unfold Hid stillE; rw [if_neg (fun h => h HCE.out), HCA.out, hl]; rfl
    have HV : Hid (stillV f kn = 0) := by unfold Hid stillV; rw [HN.out]; rfl
    gi_wp2
    refine leaves_marks (by simp) _ _ (Marks.nil w.heap.size _) fun W' hb hc => ?_
    exact ⟨_, results_tmp2 rfl _ _ _, by rw [HV.out, HN.out]; rfl, Below.trans (Ext.alloc hx2 _) hb⟩
  obtain ⟨Ac, kc, e1, hIc, hkc⟩ := hl2 hl
  subst e1
  have HN : Hid (stillE f kn = 0) := by unfold Hid stillE; rw [if_neg (fun h => h HCE.out), HCA.out, hl]; rfl
  have HV : Hid (stillV f kn = stillM (farM f) f c) := by unfold Hid stillV; rw [HN.out, HCA.out]; rfl
  have hmi := HOK.out.mi
  have hpl := HOK.out.pl
  obtain ⟨P, hP⟩ : ∃ P : Nat, f.pl = P := ⟨f.pl.toNat, by omega⟩
  obtain ⟨M, hM⟩ : ∃ M : Nat, f.mi = M := ⟨f.mi.toNat, by omega⟩
  have HP : Hid (f.pl = P ∧ f.pl.toNat = P) := ⟨hP, by omega⟩
  have HM : Hid (f.mi = M ∧ f.mi.toNat = M) := ⟨hM, by omega⟩
  have q1 := hb2.cell kc1
  rw [hM] at q1 hmi
  rw [hP] at hpl
  rw [HM.out.2] at hkc
  rw [HM.out.2]
  rw [HP.out.1, HM.out.1]
  have k0 : ∀ o1 o2 o3, (((w2.alloc o1).alloc o2).alloc o3).cell? ⟨w.heap.size, 1, none⟩ = some (.int .i64 (M : Int)) := fun o1 o2 o3 => ((((Ext.refl w2).alloc o1).alloc o2).alloc o3).cell q1
  have hDk := HDK.out.ext hb2
  have HIC := hid hIc
  clear hP hM hl1 hl2 hl kc0 kc1 kc2 kc3 kc4 cc0 cc1 k2 k3 k4 hCS hCR hIc
  gi_wp2
  have hsz0 : w2.heap.size + 1 + 1 + 1 = ((((w2.alloc (.cells #[.slice (some Ac) (M + 1) kc] 35)).alloc (.map #[] 0)).alloc (.cells #[.map (some (w2.heap.size + 1))] 177)).heap.size) := by simp
  obtain ⟨W1, hW1⟩ : ∃ W1, (((w2.alloc (.cells #[.slice (some Ac) (M + 1) kc] 35)).alloc (.map #[] 0)).alloc (.cells #[.map (some (w2.heap.size + 1))] 177)) = W1 := ⟨_, rfl⟩
  have hX1 : Ext w2 W1 := by rw [← hW1]; exact (((Ext.refl w2).alloc _).alloc _).alloc _
  have hz1 : W1.heap.size = w2.heap.size + 1 + 1 + 1 := by rw [← hW1]; exact hsz0.symm
  have hM1 : MapSp W1 (w2.heap.size + 1) 0 (stV (farM f) f c 0 0) := by
    rw [← hW1, ← stV_start]
    have h := MapSp.start (w2.alloc (.cells #[.slice (some Ac) (M + 1) kc] 35))
    simp only [World.size_alloc] at h
    exact h.ext (Ext.alloc (Ext.refl _) _)
  have hww2 := hx2.size
  have FX1 : Hid (∀ w', Bel (w2.heap.size + 1) W1 w' → w'.cell? ⟨w2.heap.size, 0, none⟩ = some (.slice (some Ac) (M + 1) kc) ∧ w'.cell? ⟨w2.heap.size + 1 + 1, 0, none⟩ = some (.map (some (w2.heap.size + 1))) ∧
      w'.cell? ⟨w.heap.size, 1, none⟩ = some (.int .i64 (M : Int)) ∧ Ext w2 w') := fun w' h =>
    ⟨h.cell (by rw [← hW1]; simp [go_sem]) (by simp), h.cell (by rw [← hW1]; simp [go_sem]) (by simp), h.cell (hX1.cell q1) (by simp; omega), hX1.then_bel (by omega) h⟩
  try rw [hW1]
  rw [← hz1]
  clear hW1 hsz0 q1 k0
  refine wpIn_loop (StI w w2 W1 D M f c) (fun act W => (boxInt W (act.tmps.getD 11 undef) + 1).toNat) ?h0 ?hr
  case h0 =>
    refine ⟨0, W1.heap.size, 0, [], rfl, rfl, ⟨rfl, rfl, rfl, rfl, rfl, rfl⟩, by rw [outV_start], Nat.zero_le _, Nat.le_refl _, ?_, hM1.ext (Ext.alloc (Ext.refl _) _), (Ext.alloc (Ext.refl _) _).bel, Marks.nil _ _⟩
    have := World.alloc_heap_new W1 (.cells #[.int .i64 (M : Int)] 3)
    unfold Box8
    rw [this]; simp
  case hr =>
    intro act W hI
    refine hI.elim ?_
    clear hI
    intro n0 B11 OV y ds eact hOV0 hn0 hB11 hbx hMS hbl hmk
    have hOV := hid hOV0
    clear hOV0
    subst eact
    dsimp only
    obtain ⟨x0, x1, x2, x3⟩ := FX1.out W hbl
    have HBX := hid hbx
    have q8 := hbx.cell
    by_cases hlt : n0 ≤ M
    · obtain ⟨m, hm⟩ : ∃ m : Nat, M = m + n0 := ⟨M - n0, by omega⟩
      have hmv : (M : Int) - (n0 : Int) = (m : Int) := by omega
      rw [hmv] at q8
      have hm8 : m ≤ 8 := by omega
      have hge : (0 : Int) ≤ (m : Int) := by omega
      have HMN := hid hm
      have hmM : m ≤ f.mi.toNat := by rw [HM.out.2]; omega
      have hmi' : (m : Int) < (M : Int) + 1 := by omega
      obtain ⟨rb, ro, A7, k7, eA9, g0, hI7, hk7⟩ := HIC.out.at_ (canL_get hmM)
      cases eA9
      have HI7 := hid hI7
      have g1 := x3.cell g0
      have hni := natI_len (canN (farM f) f c m)
      rw [hni] at g1
      have HCL : Hid ((canN (farM f) f c m).length ≤ 8) := by have h := (canN_lt (g := farM f) (f := f) (c := c) HOK.out.pl.2 m).2; rw [hni] at h; exact h
      clear hm g0 hI7 hk7
      gi_wp2
      clear g1
      refine wpIn_loop (StJ w w2 W D m n0 B11 k7 A7 f c) (fun act _ => (canN (farM f) f c m).length - (intOf (act.tmps.getD 48 undef)).toNat) ?h0 ?hr
      case h0 => exact ⟨0, OV, ds, rfl, rfl, ⟨rfl, rfl, rfl, rfl, rfl, rfl, rfl, rfl, rfl⟩, hOV.out, Nat.zero_le _, by simpa using hMS, Bel.refl _ _, hmk⟩
      case hr =>
        clear hMS hmk hOV
        intro act V hJ
        refine hJ.elim ?_
        clear hJ
        intro j OV y ds eact hOV0 hj hMV hbV hmk
        have hOV := hid hOV0
        clear hOV0
        subst eact
        dsimp only
        have hbV1 := hbl.trans hbV
        have hb8 := HBX.out.bel hbV (by omega)
        rw [hmv] at hb8
        have v8 := hb8.cell
        obtain ⟨z0, z1, z2, z3⟩ := FX1.out V hbV1
        have hMlt := hMV.lt
        have hcl8 := HCL.out
        by_cases hltj : j < (canN (farM f) f c m).length
        · have hltj' : (j : Int) < ((canN (farM f) f c m).length : Int) := by omega
          obtain ⟨p, hpj⟩ := get_of_lt (canN (farM f) f c m) j hltj
          have HPJ := hid hpj
          have hpP : p < P := by rw [← HP.out.2]; exact can_lt hmM (List.mem_of_getElem? hpj)
          have hp8 : p < 8 := by omega
          obtain ⟨b7, o7, e7, g7⟩ := Ints.at_ (HI7.out.ext z3) (show (natI (canN (farM f) f c m))[j]? = some (p : Int) by unfold natI; rw [List.getElem?_map, hpj]; rfl)
          subst e7
          obtain ⟨OB, hOB⟩ : ∃ OB, outV (farM f) f c n0 j = OB := ⟨_, rfl⟩
          have hovb := outV_le (g := farM f) (f := f) (c := c) (n0 := n0) (j := j)
          rw [← hOV.out, HM.out.2] at hovb
          have hj8 : j < 8 := by omega
          clear hpj hltj hOB
          have hDlt := hDk.lt
          gi_wp2_with fail
          obtain ⟨W5, hW5⟩ : ∃ W5, (V.alloc (.cells #[.int .i64 (p : Int)] 3)).alloc (.cells #[.int .i64 (-1)] 3) = W5 := ⟨_, rfl⟩
          have hx5 : Ext V W5 := by rw [← hW5]; exact ((Ext.refl _).alloc _).alloc _
          have b13 : Box8 W5 V.heap.size (p : Int) := by rw [← hW5]; exact (Box8.new V (p : Int)).ext (Ext.alloc (Ext.refl _) _)
          have b14 : Box8 W5 (V.heap.size + 1) (-1) := by
            have h := Box8.new (V.alloc (.cells #[.int .i64 (p : Int)] 3)) (-1)
            rw [hW5, World.size_alloc] at h
            exact h
          rw [hW5]
          clear hW5
          obtain ⟨B14, hB14⟩ : ∃ B14, V.heap.size + 1 = B14 := ⟨_, rfl⟩
          obtain ⟨B13, hB13⟩ : ∃ B13, V.heap.size = B13 := ⟨_, rfl⟩
          rw [hB14] at b14
          rw [hB13] at b13
          try rw [hB14]
          try rw [hB13]
          have hV13 : V.heap.size ≤ B13 := by omega
          have hV31 : B13 ≤ V.heap.size := by omega
          have hlt34 : B13 < B14 := by omega
          clear hB13 hB14
          have hM5 := hMV.ext hx5
          have hz5 := hx5.size
          have hb5 := hbV.trans (hx5.bel (D := w2.heap.size + 1))
          have hmk5 := hmk.bel (hx5.bel (D := w2.heap.size + 1)) hMV.nodef
          have p13 := b13.cell
          refine ⟨trivial, (callsIn_wide.2 (next_any D p _)).mono ?_⟩
          rintro e w6 ⟨rfl, rfl⟩
          obtain ⟨W6, hW6⟩ : ∃ W6, (W5.alloc (.cells #[.pointer (some ⟨D, 0, none⟩)] 148)).alloc (.cells #[.int .i64 (p : Int)] 3) = W6 := ⟨_, rfl⟩
          have hx6 : Ext W5 W6 := by rw [← hW6]; exact ((Ext.refl _).alloc _).alloc _
          have kd : W6.cell? ⟨W5.heap.size, 0, none⟩ = some (.pointer (some ⟨D, 0, none⟩)) := by rw [← hW6]; simp [go_sem]
          have kp : W6.cell? ⟨W5.heap.size + 1, 0, none⟩ = some (.int .i64 (p : Int)) := by rw [← hW6]; simp [go_sem]
          have hz6 := hx6.size
          rw [hW6]
          clear hW6
          have x6 : Ext w2 W6 := (z3.trans hx5).trans hx6
          have hd6 := hDk.ext x6
          have hM6 := hM5.ext hx6
          have hb6 := hb5.trans (hx6.bel (D := w2.heap.size + 1))
          have hmk6 := hmk5.bel (hx6.bel (D := w2.heap.size + 1)) hM5.nodef
          have c13 := b13.ext hx6
          have c14 := b14.ext hx6
          have c8 := (hb8.ext hx5).ext hx6
          have m1 := (hx5.trans hx6).cell z1
          have m2 := (hx5.trans hx6).cell z2
          have hNS : V.heap.size ≤ W5.heap.size := hx5.size
          have hlt45 := b14.lt
          have hB14lt := b14.lt
          have hB13lt := b13.lt
          have hB11lt := HBX.out.lt
          have hWV := hbV.size
          clear hM5 hb5 hmk5 b13 p13 hmk z0 z1 z2 v8
          gi_wp2
          refine wpIn_rangeFunc_ownH (F := Fence.wide) (n := 9) rfl (by omega) (gf := 187) (lb := #[.pointer (some ⟨W5.heap.size, 0, none⟩), .pointer (some ⟨W5.heap.size + 1, 0, none⟩)]) rfl trivial (enters_of Tryz.func187 (by kernel_rfl) rfl)
            (next_stops _ D W5.heap.size (W5.heap.size + 1) B14 f (farM f) p s2 W6 (by rw [HP.out.1]; omega) hp8 (by omega) (by omega) (by omega) hd6 kd kp) Cel.trans cel_b (Below.refl _ _) (fun _ => rfl)
            (fun pre W' => Box8 W' B14 (bestNP (farM f) f c m p pre) ∧ MapSp W' (w2.heap.size + 1) (n0 * 200 + j * 20) (stV (farM f) f c n0 j) ∧ Bel B14 W6 W') (fun _ _ _ => False)
            (OwnFrom.and (own_box (by have := c14.lt; omega) (fun pre : List (NP (nxt (farM f) f.pl.toNat p)) => bestNP (farM f) f c m p pre)) (OwnFrom.and (own_mapsp hM6.lt (fun _ : List (NP (nxt (farM f) f.pl.toNat p)) => n0 * 200 + j * 20) (fun _ : List (NP (nxt (farM f) f.pl.toNat p)) => stV (farM f) f c n0 j)) (own_bel (Nat.le_refl _)))) (fun _ _ _ _ _ hs _ _ => hs) ⟨by unfold bestNP; rw [List.map_nil, bestV_nil]; exact c14, hM6, Bel.refl _ _⟩
            (fun x a' W' => a' = { tmps := (List.toArray (y 0 :: y 1 :: (.pointer (some ⟨w.heap.size, 0, none⟩)) :: y 3 :: y 4 :: y 5 :: (.pointer (some ⟨D, 0, none⟩)) :: y 7 :: (.pointer (some ⟨w2.heap.size, 0, none⟩)) :: (.pointer (some ⟨w2.heap.size + 1 + 1, 0, none⟩)) :: (.int .i64 OV) :: (.pointer (some ⟨B11, 0, none⟩)) :: y 12 :: (.pointer (some ⟨B13, 0, none⟩)) :: (.pointer (some ⟨B14, 0, none⟩)) :: (.int .i64 (x.1 : Int)) :: y 16 :: y 17 :: y 18 :: y 19 :: y 20 :: y 21 :: y 22 :: y 23 :: y 24 :: y 25 :: y 26 :: y 27 :: y 28 :: y 29 :: y 30 :: y 31 :: y 32 :: y 33 :: y 34 :: y 35 :: y 36 :: y 37 :: y 38 :: y 39 :: y 40 :: y 41 :: y 42 :: y 43 :: y 44 :: y 45 :: (.slice (some ⟨b7, o7, none⟩) (canN (farM f) f c m).length k7) :: (.int .i64 ((canN (farM f) f c m).length : Int)) :: (.int .i64 (j : Int)) :: (.bool true) :: (.pointer (some ⟨b7, o7 + j, none⟩)) :: (.int .i64 (p : Int)) :: (.pointer (some ⟨D, 0, none⟩)) :: (.int .i64 (p : Int)) :: (.func (.func 187) #[] #[.pointer (some ⟨W5.heap.size, 0, none⟩), .pointer (some ⟨W5.heap.size + 1, 0, none⟩)]) :: (.int .i64 (x.1 : Int)) :: y 56 :: y 57 :: y 58 :: y 59 :: y 60 :: y 61 :: y 62 :: y 63 :: y 64 :: y 65 :: y 66 :: y 67 :: y 68 :: y 69 :: y 70 :: y 71 :: y 72 :: y 73 :: y 74 :: y 75 :: y 76 :: y 77 :: y 78 :: y 79 :: y 80 :: y 81 :: y 82 :: y 83 :: y 84 :: y 85 :: y 86 :: y 87 :: y 88 :: y 89 :: y 90 :: y 91 :: y 92 :: y 93 :: y 94 :: y 95 :: y 96 :: [])), defers := [] })
            (fun x a' _ X Y row hs hg hr => hs)
            ?assign ?body ?done ?stop
          case assign =>
            rintro lv pre x W' K ⟨i1, i2⟩ hK
            simp only [encNP] at *
            gi_wp2
            refine hK _ _ ⟨Nat.le_refl _, fun k o h1 hk ho => hk⟩ (Cel.refl _ _) ⟨i1, i2⟩ ?_
            rfl
          case body =>
            rintro lv pre x a' W' hl ⟨r, hr⟩ ⟨i1, i2, i3⟩ rfl hlt2
            obtain ⟨q, hq⟩ := x
            have hqx := mem_nxt.1 hq
            have hqP : q < P := by rw [← HP.out.2]; exact hqx.1
            obtain ⟨X, hX⟩ : ∃ X, bestNP (farM f) f c m p pre = X := ⟨_, rfl⟩
            have HX := hid hX
            have hxb := bestV_le (g := farM f) (f := f) (c := c) m p (pre.map (·.1))
            rw [show bestV (farM f) f c m p (pre.map (·.1)) = X from hX, HM.out.2] at hxb
            rw [hX] at i1
            have j1 := i3.cell m1 (by simp; omega)
            have j2 := i3.cell m2 (by simp; omega)
            have j8 := (c8.bel i3 (by omega)).cell
            have j13 := (c13.bel i3 (by omega)).cell
            have j14 := i1.cell
            have z3' := x6.then_bel (by omega) i3
            have j0 := (FX1.out V hbV1).1
            have j0 := i3.cell ((hx5.trans hx6).cell j0) (by simp; omega)
            clear hX hlt2 hr
            by_cases hpq : p = q
            · have bq : ((p : Int) == (q : Int)) = true := by simp [hpq]
              have HPQ := hid hpq
              clear hpq
              by_cases hmM2 : m < M
              · have hmM3 : (m : Int) < (M : Int) := by omega
                have HW1 : Hid (IntKind.i64.wrap ((m : Int) + 1) = (m : Int) + 1) := by unfold Hid; rw [IntWalk.i64_in _ ⟨by omega, by omega⟩]
                have hge1 : (0 : Int) ≤ (m : Int) + 1 := by omega
                have hlt1 : (m : Int) + 1 < (M : Int) + 1 := by omega
                obtain ⟨rb2, ro2, A8, k8, eA8, g8, hI8, hk8⟩ := HIC.out.at_ (canL_get (show m + 1 ≤ f.mi.toNat by rw [HM.out.2]; omega))
                cases eA8
                have g9 := z3'.cell g8
                have hl8 : (natI (canN (farM f) f c (m + 1))).length ≤ 9223372036854775807 := by have := (canN_lt (g := farM f) (c := c) HOK.out.pl.2 (m + 1)).2; omega
                have HIN := hid ((containsI_any (q : Int) A8 k8 (natI (canN (farM f) f c (m + 1))) W' (hI8.ext z3') hl8))
                clear hI8 hl8 g8 hk8
                gi_wp2_with fail
                refine ⟨trivial, (callsIn_wide.2 HIN.out).mono ?_⟩
                clear HIN
                rintro e w7 ⟨rfl, rfl⟩
                obtain ⟨BI, hBI⟩ : ∃ BI, memI (q : Int) (natI (canN (farM f) f c (m + 1))) = BI := ⟨_, rfl⟩
                have HBI : Hid (inCan (farM f) f c (m + 1) q = BI) := hBI
                rw [hBI]
                clear hBI
                cases BI
                case false =>
                  have HNB : Hid (bestNP (farM f) f c m p (pre ++ [(⟨q, hq⟩ : NP (nxt (farM f) f.pl.toNat p))]) = X) := by
                    unfold Hid
                    rw [← HX.out]; unfold bestNP; rw [List.map_append]
                    unfold bestV
                    rw [HM.out.2, if_pos hmM2, if_pos hmM2]
                    simp only [List.map_cons, List.map_nil]
                    rw [maxF_snoc, HBI.out]; rfl
                  gi_wp2
                  refine ⟨⟨Nat.le_refl _, fun k o h1 hk ho => hk⟩, Cel.refl _ _, ?_⟩
                  dsimp only
                  rw [HNB.out]
                  exact ⟨i1, i2, i3⟩
                obtain ⟨MQ, hMQ⟩ : ∃ MQ, mostAt (farM f) f c (m + 1) q = MQ := ⟨_, rfl⟩
                have hmb := most_le (g := farM f) (f := f) (c := c) (f.mi.toNat - (m + 1)) q
                have hmb' : 0 ≤ MQ ∧ MQ ≤ 8 := by
                  rw [← hMQ]; unfold mostAt
                  have := HM.out.2
                  omega
                have HW2 : Hid (IntKind.i64.wrap (1 + MQ) = 1 + MQ) := IntWalk.i64_in _ ⟨by omega, by omega⟩
                have HST : Hid (stay1 p q = 1) := by unfold Hid stay1; rw [if_pos HPQ.out]
                have HNB : Hid (bestNP (farM f) f c m p (pre ++ [(⟨q, hq⟩ : NP (nxt (farM f) f.pl.toNat p))]) = max X (1 + MQ)) := by
                  unfold Hid
                  rw [← HX.out]; unfold bestNP; rw [List.map_append]
                  unfold bestV
                  rw [HM.out.2, if_pos hmM2, if_pos hmM2]
                  simp only [List.map_cons, List.map_nil]
                  rw [maxF_snoc, HBI.out, if_pos rfl, HST.out, hMQ]
                  try rw [Int.zero_add]
                have FY : Hid (∀ w', Ext W' w' → w'.cell? ⟨w2.heap.size + 1 + 1, 0, none⟩ = some (.map (some (w2.heap.size + 1))) ∧ w'.cell? ⟨B11, 0, none⟩ = some (.int .i64 (m : Int)) ∧ w'.cell? ⟨B14, 0, none⟩ = some (.int .i64 X) ∧
                    (Instr.lookup 177 (.map (some (w2.heap.size + 1))) (.agg #[.int .i64 ((m : Int) + 1), .int .i64 (q : Int)]) false).run Tryz.prog w' = .ok (.int .i64 MQ) w') := fun w' h => ⟨h.cell j1, h.cell j8, h.cell j14, by
                  have h2 := (i2.ext h).look (m := m + 1) (p := q) (by omega) (by omega)
                  rw [stV_done (by rw [HM.out.2]; omega) (by rw [HM.out.2]; have := HMN.out; omega) (inCan_iff.1 HBI.out), hMQ] at h2
                  unfold spotV at h2
                  simpa only [Int.natCast_add, Int.natCast_one] using h2⟩
                clear hmb hMQ
                by_cases hxy : X < 1 + MQ
                · have hmx : max X (1 + MQ) = 1 + MQ := by omega
                  rw [hmx] at HNB
                  gi_wp2
                  refine wpIn_region_shut_tail Ext (fun w' => Ext W' w') (fun _ => none) 10 (by kernel_rfl) (by kernel_rfl) (fun _ _ h k => h.trans k) ?hT1a (Ext.drew (Ext.refl _)) ?_
                  case hT1a =>
                    intro i R hR
                    cases hR
                  refine wM_val ?ug1a0 rfl rfl Ext.refl (fun w' hD => ?hg1a0) (fun phg1a0 => ?ng1a0)
                  case hg1a0 =>
                    obtain ⟨d0, d1, d2, d3⟩ := FY.out w' hD.1
                    go_simp; rfl
                  simp only [Act.put, List.setIfInBounds_toArray, List.set_cons_succ, List.set_cons_zero, Nat.reduceAdd]
                  refine wM_val ?ug1a1 rfl rfl Ext.refl (fun w' hD => ?hg1a1) (fun phg1a1 => ?ng1a1)
                  case hg1a1 =>
                    obtain ⟨d0, d1, d2, d3⟩ := FY.out w' hD.1
                    go_simp; rfl
                  simp only [Act.put, List.setIfInBounds_toArray, List.set_cons_succ, List.set_cons_zero, Nat.reduceAdd]
                  refine wM_val ?ug1a2 rfl rfl Ext.refl (fun w' hD => ?hg1a2) (fun phg1a2 => ?ng1a2)
                  case hg1a2 =>
                    obtain ⟨d0, d1, d2, d3⟩ := FY.out w' hD.1
                    go_simp; rfl
                  simp only [Act.put, List.setIfInBounds_toArray, List.set_cons_succ, List.set_cons_zero, Nat.reduceAdd]
                  refine wM_val ?ug1a3 rfl rfl Ext.refl (fun w' hD => ?hg1a3) (fun phg1a3 => ?ng1a3)
                  case hg1a3 =>
                    obtain ⟨d0, d1, d2, d3⟩ := FY.out w' hD.1
                    go_simp; rfl
                  simp only [Act.put, List.setIfInBounds_toArray, List.set_cons_succ, List.set_cons_zero, Nat.reduceAdd]
                  refine wM_val ?ug1a4 rfl rfl Ext.refl (fun w' hD => ?hg1a4) (fun phg1a4 => ?ng1a4)
                  case hg1a4 =>
                    obtain ⟨d0, d1, d2, d3⟩ := FY.out w' hD.1
                    go_simp; rfl
                  simp only [Act.put, List.setIfInBounds_toArray, List.set_cons_succ, List.set_cons_zero, Nat.reduceAdd]
                  try rw [HW1.out]
                  refine wM_val ?ug1a5 rfl rfl Ext.refl (fun w' hD => ?hg1a5) (fun phg1a5 => ?ng1a5)
                  case hg1a5 =>
                    obtain ⟨d0, d1, d2, d3⟩ := FY.out w' hD.1
                    go_simp; rfl
                  simp only [Act.put, List.setIfInBounds_toArray, List.set_cons_succ, List.set_cons_zero, Nat.reduceAdd]
                  refine wM_val ?ug1a6 rfl rfl Ext.refl (fun w' hD => ?hg1a6) (fun phg1a6 => ?ng1a6)
                  case hg1a6 =>
                    obtain ⟨d0, d1, d2, d3⟩ := FY.out w' hD.1
                    go_simp; rfl
                  simp only [Act.put, List.setIfInBounds_toArray, List.set_cons_succ, List.set_cons_zero, Nat.reduceAdd]
                  refine wM_val ?ug1a7 rfl rfl Ext.refl (fun w' hD => ?hg1a7) (fun phg1a7 => ?ng1a7)
                  case hg1a7 =>
                    obtain ⟨d0, d1, d2, d3⟩ := FY.out w' hD.1
                    go_simp; rfl
                  simp only [Act.put, List.setIfInBounds_toArray, List.set_cons_succ, List.set_cons_zero, Nat.reduceAdd]
                  refine wM_val ?ug1a8 rfl rfl Ext.refl (fun w' hD => ?hg1a8) (fun phg1a8 => ?ng1a8)
                  case hg1a8 =>
                    obtain ⟨d0, d1, d2, d3⟩ := FY.out w' hD.1
                    go_simp; rfl
                  simp only [Act.put, List.setIfInBounds_toArray, List.set_cons_succ, List.set_cons_zero, Nat.reduceAdd]
                  try rw [HW2.out]
                  refine wM_val ?ug1a9 rfl rfl Ext.refl (fun w' hD => ?hg1a9) (fun phg1a9 => ?ng1a9)
                  case hg1a9 =>
                    obtain ⟨d0, d1, d2, d3⟩ := FY.out w' hD.1
                    go_simp; rfl
                  simp only [Act.put, List.setIfInBounds_toArray, List.set_cons_succ, List.set_cons_zero, Nat.reduceAdd]
                  refine wM_nil ?_
                  intro w9 hw9 hF9
                  have k14 := hw9.cell j14
                  have kfz := (i1.ext hw9).frozen
                  have hbx9 := (i1.ext hw9).set (1 + MQ)
                  have hM9 := (i2.ext hw9).setCell ⟨B14, 0, none⟩ (.int .i64 (1 + MQ)) (by simp; omega)
                  have hbb : Bel B14 W' (w9.setCell ⟨B14, 0, none⟩ (.int .i64 (1 + MQ))) := (hw9.bel (D := B14)).setCell 0 _
                  clear hF9
                  simp only [List.drop_succ_cons, List.drop_zero]
                  gi_wp2
                  refine ⟨⟨hbb.size, fun k o h1 hk ho => hbb.heap hk (by omega)⟩, hbb.cel, ?_⟩
                  dsimp only
                  rw [HNB.out]
                  exact ⟨hbx9, hM9, i3.trans hbb⟩
                · have hmx : max X (1 + MQ) = X := by omega
                  rw [hmx] at HNB
                  gi_wp2
                  refine wpIn_region_shut_tail Ext (fun w' => Ext W' w') (fun _ => none) 10 (by kernel_rfl) (by kernel_rfl) (fun _ _ h k => h.trans k) ?hT1b (Ext.drew (Ext.refl _)) ?_
                  case hT1b =>
                    intro i R hR
                    cases hR
                  refine wM_val ?ug1b0 rfl rfl Ext.refl (fun w' hD => ?hg1b0) (fun phg1b0 => ?ng1b0)
                  case hg1b0 =>
                    obtain ⟨d0, d1, d2, d3⟩ := FY.out w' hD.1
                    go_simp; rfl
                  simp only [Act.put, List.setIfInBounds_toArray, List.set_cons_succ, List.set_cons_zero, Nat.reduceAdd]
                  refine wM_val ?ug1b1 rfl rfl Ext.refl (fun w' hD => ?hg1b1) (fun phg1b1 => ?ng1b1)
                  case hg1b1 =>
                    obtain ⟨d0, d1, d2, d3⟩ := FY.out w' hD.1
                    go_simp; rfl
                  simp only [Act.put, List.setIfInBounds_toArray, List.set_cons_succ, List.set_cons_zero, Nat.reduceAdd]
                  refine wM_val ?ug1b2 rfl rfl Ext.refl (fun w' hD => ?hg1b2) (fun phg1b2 => ?ng1b2)
                  case hg1b2 =>
                    obtain ⟨d0, d1, d2, d3⟩ := FY.out w' hD.1
                    go_simp; rfl
                  simp only [Act.put, List.setIfInBounds_toArray, List.set_cons_succ, List.set_cons_zero, Nat.reduceAdd]
                  refine wM_val ?ug1b3 rfl rfl Ext.refl (fun w' hD => ?hg1b3) (fun phg1b3 => ?ng1b3)
                  case hg1b3 =>
                    obtain ⟨d0, d1, d2, d3⟩ := FY.out w' hD.1
                    go_simp; rfl
                  simp only [Act.put, List.setIfInBounds_toArray, List.set_cons_succ, List.set_cons_zero, Nat.reduceAdd]
                  refine wM_val ?ug1b4 rfl rfl Ext.refl (fun w' hD => ?hg1b4) (fun phg1b4 => ?ng1b4)
                  case hg1b4 =>
                    obtain ⟨d0, d1, d2, d3⟩ := FY.out w' hD.1
                    go_simp; rfl
                  simp only [Act.put, List.setIfInBounds_toArray, List.set_cons_succ, List.set_cons_zero, Nat.reduceAdd]
                  try rw [HW1.out]
                  refine wM_val ?ug1b5 rfl rfl Ext.refl (fun w' hD => ?hg1b5) (fun phg1b5 => ?ng1b5)
                  case hg1b5 =>
                    obtain ⟨d0, d1, d2, d3⟩ := FY.out w' hD.1
                    go_simp; rfl
                  simp only [Act.put, List.setIfInBounds_toArray, List.set_cons_succ, List.set_cons_zero, Nat.reduceAdd]
                  refine wM_val ?ug1b6 rfl rfl Ext.refl (fun w' hD => ?hg1b6) (fun phg1b6 => ?ng1b6)
                  case hg1b6 =>
                    obtain ⟨d0, d1, d2, d3⟩ := FY.out w' hD.1
                    go_simp; rfl
                  simp only [Act.put, List.setIfInBounds_toArray, List.set_cons_succ, List.set_cons_zero, Nat.reduceAdd]
                  refine wM_val ?ug1b7 rfl rfl Ext.refl (fun w' hD => ?hg1b7) (fun phg1b7 => ?ng1b7)
                  case hg1b7 =>
                    obtain ⟨d0, d1, d2, d3⟩ := FY.out w' hD.1
                    go_simp; rfl
                  simp only [Act.put, List.setIfInBounds_toArray, List.set_cons_succ, List.set_cons_zero, Nat.reduceAdd]
                  refine wM_val ?ug1b8 rfl rfl Ext.refl (fun w' hD => ?hg1b8) (fun phg1b8 => ?ng1b8)
                  case hg1b8 =>
                    obtain ⟨d0, d1, d2, d3⟩ := FY.out w' hD.1
                    go_simp; rfl
                  simp only [Act.put, List.setIfInBounds_toArray, List.set_cons_succ, List.set_cons_zero, Nat.reduceAdd]
                  try rw [HW2.out]
                  refine wM_val ?ug1b9 rfl rfl Ext.refl (fun w' hD => ?hg1b9) (fun phg1b9 => ?ng1b9)
                  case hg1b9 =>
                    obtain ⟨d0, d1, d2, d3⟩ := FY.out w' hD.1
                    go_simp; rfl
                  simp only [Act.put, List.setIfInBounds_toArray, List.set_cons_succ, List.set_cons_zero, Nat.reduceAdd]
                  refine wM_nil ?_
                  intro w9 hw9 hF9
                  have k14 := hw9.cell j14
                  have kfz := (i1.ext hw9).frozen
                  have hbx9 := (i1.ext hw9).set (X)
                  have hM9 := (i2.ext hw9).setCell ⟨B14, 0, none⟩ (.int .i64 (X)) (by simp; omega)
                  have hbb : Bel B14 W' (w9.setCell ⟨B14, 0, none⟩ (.int .i64 (X))) := (hw9.bel (D := B14)).setCell 0 _
                  clear hF9
                  simp only [List.drop_succ_cons, List.drop_zero]
                  gi_wp2
                  refine ⟨⟨hbb.size, fun k o h1 hk ho => hbb.heap hk (by omega)⟩, hbb.cel, ?_⟩
                  dsimp only
                  rw [HNB.out]
                  exact ⟨hbx9, hM9, i3.trans hbb⟩
              · have hmM3 : ¬ (m : Int) < (M : Int) := by omega
                have HNB : Hid (bestNP (farM f) f c m p (pre ++ [(⟨q, hq⟩ : NP (nxt (farM f) f.pl.toNat p))]) = X) := by
                  unfold Hid
                  rw [← HX.out]
                  unfold bestNP bestV
                  rw [HM.out.2, if_neg hmM2, if_neg hmM2]
                gi_wp2
                refine ⟨trivial, ?_⟩
                gi_wp2
                refine ⟨⟨Nat.le_refl _, fun k o h1 hk ho => hk⟩, Cel.refl _ _, ?_⟩
                dsimp only
                rw [HNB.out]
                exact ⟨i1, i2, i3⟩
            · have bq : ((p : Int) == (q : Int)) = false := by simp; exact fun e => hpq (by omega)
              have HPQ := hid hpq
              clear hpq
              by_cases hmM2 : m < M
              · have hmM3 : (m : Int) < (M : Int) := by omega
                have HW1 : Hid (IntKind.i64.wrap ((m : Int) + 1) = (m : Int) + 1) := by unfold Hid; rw [IntWalk.i64_in _ ⟨by omega, by omega⟩]
                have hge1 : (0 : Int) ≤ (m : Int) + 1 := by omega
                have hlt1 : (m : Int) + 1 < (M : Int) + 1 := by omega
                obtain ⟨rb2, ro2, A8, k8, eA8, g8, hI8, hk8⟩ := HIC.out.at_ (canL_get (show m + 1 ≤ f.mi.toNat by rw [HM.out.2]; omega))
                cases eA8
                have g9 := z3'.cell g8
                have hl8 : (natI (canN (farM f) f c (m + 1))).length ≤ 9223372036854775807 := by have := (canN_lt (g := farM f) (c := c) HOK.out.pl.2 (m + 1)).2; omega
                have HIN := hid ((containsI_any (q : Int) A8 k8 (natI (canN (farM f) f c (m + 1))) W' (hI8.ext z3') hl8))
                clear hI8 hl8 g8 hk8
                gi_wp2_with fail
                refine ⟨trivial, (callsIn_wide.2 HIN.out).mono ?_⟩
                clear HIN
                rintro e w7 ⟨rfl, rfl⟩
                obtain ⟨BI, hBI⟩ : ∃ BI, memI (q : Int) (natI (canN (farM f) f c (m + 1))) = BI := ⟨_, rfl⟩
                have HBI : Hid (inCan (farM f) f c (m + 1) q = BI) := hBI
                rw [hBI]
                clear hBI
                cases BI
                case false =>
                  have HNB : Hid (bestNP (farM f) f c m p (pre ++ [(⟨q, hq⟩ : NP (nxt (farM f) f.pl.toNat p))]) = X) := by
                    unfold Hid
                    rw [← HX.out]; unfold bestNP; rw [List.map_append]
                    unfold bestV
                    rw [HM.out.2, if_pos hmM2, if_pos hmM2]
                    simp only [List.map_cons, List.map_nil]
                    rw [maxF_snoc, HBI.out]; rfl
                  gi_wp2
                  refine ⟨⟨Nat.le_refl _, fun k o h1 hk ho => hk⟩, Cel.refl _ _, ?_⟩
                  dsimp only
                  rw [HNB.out]
                  exact ⟨i1, i2, i3⟩
                obtain ⟨MQ, hMQ⟩ : ∃ MQ, mostAt (farM f) f c (m + 1) q = MQ := ⟨_, rfl⟩
                have hmb := most_le (g := farM f) (f := f) (c := c) (f.mi.toNat - (m + 1)) q
                have hmb' : 0 ≤ MQ ∧ MQ ≤ 8 := by
                  rw [← hMQ]; unfold mostAt
                  have := HM.out.2
                  omega
                have HW2 : Hid (IntKind.i64.wrap (MQ) = MQ) := IntWalk.i64_in _ ⟨by omega, by omega⟩
                have HST : Hid (stay1 p q = 0) := by unfold Hid stay1; rw [if_neg HPQ.out]
                have HNB : Hid (bestNP (farM f) f c m p (pre ++ [(⟨q, hq⟩ : NP (nxt (farM f) f.pl.toNat p))]) = max X (MQ)) := by
                  unfold Hid
                  rw [← HX.out]; unfold bestNP; rw [List.map_append]
                  unfold bestV
                  rw [HM.out.2, if_pos hmM2, if_pos hmM2]
                  simp only [List.map_cons, List.map_nil]
                  rw [maxF_snoc, HBI.out, if_pos rfl, HST.out, hMQ]
                  try rw [Int.zero_add]
                have FY : Hid (∀ w', Ext W' w' → w'.cell? ⟨w2.heap.size + 1 + 1, 0, none⟩ = some (.map (some (w2.heap.size + 1))) ∧ w'.cell? ⟨B11, 0, none⟩ = some (.int .i64 (m : Int)) ∧ w'.cell? ⟨B14, 0, none⟩ = some (.int .i64 X) ∧
                    (Instr.lookup 177 (.map (some (w2.heap.size + 1))) (.agg #[.int .i64 ((m : Int) + 1), .int .i64 (q : Int)]) false).run Tryz.prog w' = .ok (.int .i64 MQ) w') := fun w' h => ⟨h.cell j1, h.cell j8, h.cell j14, by
                  have h2 := (i2.ext h).look (m := m + 1) (p := q) (by omega) (by omega)
                  rw [stV_done (by rw [HM.out.2]; omega) (by rw [HM.out.2]; have := HMN.out; omega) (inCan_iff.1 HBI.out), hMQ] at h2
                  unfold spotV at h2
                  simpa only [Int.natCast_add, Int.natCast_one] using h2⟩
                clear hmb hMQ
                by_cases hxy : X < MQ
                · have hmx : max X (MQ) = MQ := by omega
                  rw [hmx] at HNB
                  gi_wp2
                  refine wpIn_region_shut_tail Ext (fun w' => Ext W' w') (fun _ => none) 10 (by kernel_rfl) (by kernel_rfl) (fun _ _ h k => h.trans k) ?hT0a (Ext.drew (Ext.refl _)) ?_
                  case hT0a =>
                    intro i R hR
                    cases hR
                  refine wM_val ?ug0a0 rfl rfl Ext.refl (fun w' hD => ?hg0a0) (fun phg0a0 => ?ng0a0)
                  case hg0a0 =>
                    obtain ⟨d0, d1, d2, d3⟩ := FY.out w' hD.1
                    go_simp; rfl
                  simp only [Act.put, List.setIfInBounds_toArray, List.set_cons_succ, List.set_cons_zero, Nat.reduceAdd]
                  refine wM_val ?ug0a1 rfl rfl Ext.refl (fun w' hD => ?hg0a1) (fun phg0a1 => ?ng0a1)
                  case hg0a1 =>
                    obtain ⟨d0, d1, d2, d3⟩ := FY.out w' hD.1
                    go_simp; rfl
                  simp only [Act.put, List.setIfInBounds_toArray, List.set_cons_succ, List.set_cons_zero, Nat.reduceAdd]
                  refine wM_val ?ug0a2 rfl rfl Ext.refl (fun w' hD => ?hg0a2) (fun phg0a2 => ?ng0a2)
                  case hg0a2 =>
                    obtain ⟨d0, d1, d2, d3⟩ := FY.out w' hD.1
                    go_simp; rfl
                  simp only [Act.put, List.setIfInBounds_toArray, List.set_cons_succ, List.set_cons_zero, Nat.reduceAdd]
                  refine wM_val ?ug0a3 rfl rfl Ext.refl (fun w' hD => ?hg0a3) (fun phg0a3 => ?ng0a3)
                  case hg0a3 =>
                    obtain ⟨d0, d1, d2, d3⟩ := FY.out w' hD.1
                    go_simp; rfl
                  simp only [Act.put, List.setIfInBounds_toArray, List.set_cons_succ, List.set_cons_zero, Nat.reduceAdd]
                  refine wM_val ?ug0a4 rfl rfl Ext.refl (fun w' hD => ?hg0a4) (fun phg0a4 => ?ng0a4)
                  case hg0a4 =>
                    obtain ⟨d0, d1, d2, d3⟩ := FY.out w' hD.1
                    go_simp; rfl
                  simp only [Act.put, List.setIfInBounds_toArray, List.set_cons_succ, List.set_cons_zero, Nat.reduceAdd]
                  try rw [HW1.out]
                  refine wM_val ?ug0a5 rfl rfl Ext.refl (fun w' hD => ?hg0a5) (fun phg0a5 => ?ng0a5)
                  case hg0a5 =>
                    obtain ⟨d0, d1, d2, d3⟩ := FY.out w' hD.1
                    go_simp; rfl
                  simp only [Act.put, List.setIfInBounds_toArray, List.set_cons_succ, List.set_cons_zero, Nat.reduceAdd]
                  refine wM_val ?ug0a6 rfl rfl Ext.refl (fun w' hD => ?hg0a6) (fun phg0a6 => ?ng0a6)
                  case hg0a6 =>
                    obtain ⟨d0, d1, d2, d3⟩ := FY.out w' hD.1
                    go_simp; rfl
                  simp only [Act.put, List.setIfInBounds_toArray, List.set_cons_succ, List.set_cons_zero, Nat.reduceAdd]
                  refine wM_val ?ug0a7 rfl rfl Ext.refl (fun w' hD => ?hg0a7) (fun phg0a7 => ?ng0a7)
                  case hg0a7 =>
                    obtain ⟨d0, d1, d2, d3⟩ := FY.out w' hD.1
                    go_simp; rfl
                  simp only [Act.put, List.setIfInBounds_toArray, List.set_cons_succ, List.set_cons_zero, Nat.reduceAdd]
                  refine wM_val ?ug0a8 rfl rfl Ext.refl (fun w' hD => ?hg0a8) (fun phg0a8 => ?ng0a8)
                  case hg0a8 =>
                    obtain ⟨d0, d1, d2, d3⟩ := FY.out w' hD.1
                    go_simp; rfl
                  simp only [Act.put, List.setIfInBounds_toArray, List.set_cons_succ, List.set_cons_zero, Nat.reduceAdd]
                  try rw [HW2.out]
                  refine wM_val ?ug0a9 rfl rfl Ext.refl (fun w' hD => ?hg0a9) (fun phg0a9 => ?ng0a9)
                  case hg0a9 =>
                    obtain ⟨d0, d1, d2, d3⟩ := FY.out w' hD.1
                    go_simp; rfl
                  simp only [Act.put, List.setIfInBounds_toArray, List.set_cons_succ, List.set_cons_zero, Nat.reduceAdd]
                  refine wM_nil ?_
                  intro w9 hw9 hF9
                  have k14 := hw9.cell j14
                  have kfz := (i1.ext hw9).frozen
                  have hbx9 := (i1.ext hw9).set (MQ)
                  have hM9 := (i2.ext hw9).setCell ⟨B14, 0, none⟩ (.int .i64 (MQ)) (by simp; omega)
                  have hbb : Bel B14 W' (w9.setCell ⟨B14, 0, none⟩ (.int .i64 (MQ))) := (hw9.bel (D := B14)).setCell 0 _
                  clear hF9
                  simp only [List.drop_succ_cons, List.drop_zero]
                  gi_wp2
                  refine ⟨⟨hbb.size, fun k o h1 hk ho => hbb.heap hk (by omega)⟩, hbb.cel, ?_⟩
                  dsimp only
                  rw [HNB.out]
                  exact ⟨hbx9, hM9, i3.trans hbb⟩
                · have hmx : max X (MQ) = X := by omega
                  rw [hmx] at HNB
                  gi_wp2
                  refine wpIn_region_shut_tail Ext (fun w' => Ext W' w') (fun _ => none) 10 (by kernel_rfl) (by kernel_rfl) (fun _ _ h k => h.trans k) ?hT0b (Ext.drew (Ext.refl _)) ?_
                  case hT0b =>
                    intro i R hR
                    cases hR
                  refine wM_val ?ug0b0 rfl rfl Ext.refl (fun w' hD => ?hg0b0) (fun phg0b0 => ?ng0b0)
                  case hg0b0 =>
                    obtain ⟨d0, d1, d2, d3⟩ := FY.out w' hD.1
                    go_simp; rfl
                  simp only [Act.put, List.setIfInBounds_toArray, List.set_cons_succ, List.set_cons_zero, Nat.reduceAdd]
                  refine wM_val ?ug0b1 rfl rfl Ext.refl (fun w' hD => ?hg0b1) (fun phg0b1 => ?ng0b1)
                  case hg0b1 =>
                    obtain ⟨d0, d1, d2, d3⟩ := FY.out w' hD.1
                    go_simp; rfl
                  simp only [Act.put, List.setIfInBounds_toArray, List.set_cons_succ, List.set_cons_zero, Nat.reduceAdd]
                  refine wM_val ?ug0b2 rfl rfl Ext.refl (fun w' hD => ?hg0b2) (fun phg0b2 => ?ng0b2)
                  case hg0b2 =>
                    obtain ⟨d0, d1, d2, d3⟩ := FY.out w' hD.1
                    go_simp; rfl
                  simp only [Act.put, List.setIfInBounds_toArray, List.set_cons_succ, List.set_cons_zero, Nat.reduceAdd]
                  refine wM_val ?ug0b3 rfl rfl Ext.refl (fun w' hD => ?hg0b3) (fun phg0b3 => ?ng0b3)
                  case hg0b3 =>
                    obtain ⟨d0, d1, d2, d3⟩ := FY.out w' hD.1
                    go_simp; rfl
                  simp only [Act.put, List.setIfInBounds_toArray, List.set_cons_succ, List.set_cons_zero, Nat.reduceAdd]
                  refine wM_val ?ug0b4 rfl rfl Ext.refl (fun w' hD => ?hg0b4) (fun phg0b4 => ?ng0b4)
                  case hg0b4 =>
                    obtain ⟨d0, d1, d2, d3⟩ := FY.out w' hD.1
                    go_simp; rfl
                  simp only [Act.put, List.setIfInBounds_toArray, List.set_cons_succ, List.set_cons_zero, Nat.reduceAdd]
                  try rw [HW1.out]
                  refine wM_val ?ug0b5 rfl rfl Ext.refl (fun w' hD => ?hg0b5) (fun phg0b5 => ?ng0b5)
                  case hg0b5 =>
                    obtain ⟨d0, d1, d2, d3⟩ := FY.out w' hD.1
                    go_simp; rfl
                  simp only [Act.put, List.setIfInBounds_toArray, List.set_cons_succ, List.set_cons_zero, Nat.reduceAdd]
                  refine wM_val ?ug0b6 rfl rfl Ext.refl (fun w' hD => ?hg0b6) (fun phg0b6 => ?ng0b6)
                  case hg0b6 =>
                    obtain ⟨d0, d1, d2, d3⟩ := FY.out w' hD.1
                    go_simp; rfl
                  simp only [Act.put, List.setIfInBounds_toArray, List.set_cons_succ, List.set_cons_zero, Nat.reduceAdd]
                  refine wM_val ?ug0b7 rfl rfl Ext.refl (fun w' hD => ?hg0b7) (fun phg0b7 => ?ng0b7)
                  case hg0b7 =>
                    obtain ⟨d0, d1, d2, d3⟩ := FY.out w' hD.1
                    go_simp; rfl
                  simp only [Act.put, List.setIfInBounds_toArray, List.set_cons_succ, List.set_cons_zero, Nat.reduceAdd]
                  refine wM_val ?ug0b8 rfl rfl Ext.refl (fun w' hD => ?hg0b8) (fun phg0b8 => ?ng0b8)
                  case hg0b8 =>
                    obtain ⟨d0, d1, d2, d3⟩ := FY.out w' hD.1
                    go_simp; rfl
                  simp only [Act.put, List.setIfInBounds_toArray, List.set_cons_succ, List.set_cons_zero, Nat.reduceAdd]
                  try rw [HW2.out]
                  refine wM_val ?ug0b9 rfl rfl Ext.refl (fun w' hD => ?hg0b9) (fun phg0b9 => ?ng0b9)
                  case hg0b9 =>
                    obtain ⟨d0, d1, d2, d3⟩ := FY.out w' hD.1
                    go_simp; rfl
                  simp only [Act.put, List.setIfInBounds_toArray, List.set_cons_succ, List.set_cons_zero, Nat.reduceAdd]
                  refine wM_nil ?_
                  intro w9 hw9 hF9
                  have k14 := hw9.cell j14
                  have kfz := (i1.ext hw9).frozen
                  have hbx9 := (i1.ext hw9).set (X)
                  have hM9 := (i2.ext hw9).setCell ⟨B14, 0, none⟩ (.int .i64 (X)) (by simp; omega)
                  have hbb : Bel B14 W' (w9.setCell ⟨B14, 0, none⟩ (.int .i64 (X))) := (hw9.bel (D := B14)).setCell 0 _
                  clear hF9
                  simp only [List.drop_succ_cons, List.drop_zero]
                  gi_wp2
                  refine ⟨⟨hbb.size, fun k o h1 hk ho => hbb.heap hk (by omega)⟩, hbb.cel, ?_⟩
                  dsimp only
                  rw [HNB.out]
                  exact ⟨hbx9, hM9, i3.trans hbb⟩
              · have hmM3 : ¬ (m : Int) < (M : Int) := by omega
                have HNB : Hid (bestNP (farM f) f c m p (pre ++ [(⟨q, hq⟩ : NP (nxt (farM f) f.pl.toNat p))]) = X) := by
                  unfold Hid
                  rw [← HX.out]
                  unfold bestNP bestV
                  rw [HM.out.2, if_neg hmM2, if_neg hmM2]
                gi_wp2
                refine ⟨trivial, ?_⟩
                gi_wp2
                refine ⟨⟨Nat.le_refl _, fun k o h1 hk ho => hk⟩, Cel.refl _ _, ?_⟩
                dsimp only
                rw [HNB.out]
                exact ⟨i1, i2, i3⟩
          case done =>
            rintro D3 xs W3 hD3 hxs ⟨i1, i2, i3⟩ hK3
            obtain ⟨X, hX⟩ : ∃ X, bestAt (farM f) f c m p = X := ⟨_, rfl⟩
            have HX := hid hX
            have hxb := best_le (g := farM f) (f := f) (c := c) m p
            rw [hX, HM.out.2] at hxb
            unfold bestNP at i1
            rw [hxs, bestV_all, hX] at i1
            have hmk7 := hmk6.cons i3 c14.nodef hK3 hD3 (by omega)
            have hbV7 := hb6.over i3 (by have := hbV.size; omega)
            have u1 := i3.cell m1 (by simp; omega)
            have u8 := (c8.bel i3 (by omega)).cell
            have u13 := (c13.bel i3 (by omega)).cell
            have u14 := i1.cell
            have hmo : mostAt (farM f) f c m p = max 0 X := by rw [most_at (by rw [HM.out.2]; have := HMN.out; omega), hX]
            clear hX hxs
            by_cases hx0 : 0 < X
            · have hmx : max 0 X = X := by omega
              rw [hmx] at hmo
              clear hmx
              obtain ⟨W4, hrun4, hM4, hg4⟩ := i2.put (m := m) (p := p) (by omega) (by omega) (by unfold maxLen; omega) (x := X) (WalkArith.wf_i64 (by omega))
              unfold spotV at hrun4
              have hb34 : Bel (w2.heap.size + 1) W3 W4 := ⟨(Below.refl 0 W3).grown hg4 (Nat.zero_le _) (fun _ _ => Nat.zero_le _), fun k hk hD => hg4.block k hk (fun e => hD (by cases e; rfl))⟩
              have hM5 : MapSp W4 (w2.heap.size + 1) (n0 * 200 + (j + 1) * 20) (stV (farM f) f c n0 (j + 1)) := by
                rw [← stV_next (by rw [HM.out.2]; exact HMN.out) HPJ.out, hmo]
                exact hM4.mono (by omega)
              have hmk5 := hmk7.bel hb34 i2.nodef
              have hbV5 := hbV7.trans hb34
              have r8 := hb34.cell u8 (by simp; omega)
              have r14 := hb34.cell u14 (by simp; omega)
              clear hM4 hg4 hb34
              by_cases hm0 : m = 0
              · have hmz : ((m : Int) == (0 : Int)) = true := by simp [hm0]
                have hn0 : n0 = M := by have := HMN.out; omega
                have HOX : Hid (outV (farM f) f c n0 (j + 1) = max OV X) := by
                  have hp0 := HPJ.out
                  rw [hm0] at hp0
                  have h := outV_max hp0
                  rw [HM.out.2, ← hn0] at h
                  unfold Hid
                  rw [h, hOV.out, ← HX.out, hm0]
                clear hm0 hn0
                by_cases hox : OV < X
                · have hov : Hid (X = outV (farM f) f c n0 (j + 1)) := by unfold Hid; rw [HOX.out]; omega
                  gi_wp2
                  refine ⟨⟨j + 1, _, _, rfl, rfl, ⟨rfl, rfl, rfl, rfl, rfl, rfl, rfl, rfl, rfl⟩, hov.out, by omega, hM5, hbV5, hmk5⟩, ?_⟩
                  simp [intOf]; omega
                · have hov : Hid (OV = outV (farM f) f c n0 (j + 1)) := by unfold Hid; rw [HOX.out]; omega
                  gi_wp2
                  refine ⟨⟨j + 1, _, _, rfl, rfl, ⟨rfl, rfl, rfl, rfl, rfl, rfl, rfl, rfl, rfl⟩, hov.out, by omega, hM5, hbV5, hmk5⟩, ?_⟩
                  simp [intOf]; omega
              · have hmz : ((m : Int) == (0 : Int)) = false := by simp [hm0]
                have hov : Hid (OV = outV (farM f) f c n0 (j + 1)) := by unfold Hid; rw [hOV.out, outV_same (by rw [HM.out.2]; have := HMN.out; omega)]
                gi_wp2
                refine ⟨⟨j + 1, _, _, rfl, rfl, ⟨rfl, rfl, rfl, rfl, rfl, rfl, rfl, rfl, rfl⟩, hov.out, by omega, hM5, hbV5, hmk5⟩, ?_⟩
                simp [intOf]; omega
            · have hmx : max 0 X = 0 := by omega
              rw [hmx] at hmo
              clear hmx
              obtain ⟨W4, hrun4, hM4, hg4⟩ := i2.put (m := m) (p := p) (by omega) (by omega) (by unfold maxLen; omega) (x := 0) (WalkArith.wf_i64 (by omega))
              unfold spotV at hrun4
              have hb34 : Bel (w2.heap.size + 1) W3 W4 := ⟨(Below.refl 0 W3).grown hg4 (Nat.zero_le _) (fun _ _ => Nat.zero_le _), fun k hk hD => hg4.block k hk (fun e => hD (by cases e; rfl))⟩
              have hM5 : MapSp W4 (w2.heap.size + 1) (n0 * 200 + (j + 1) * 20) (stV (farM f) f c n0 (j + 1)) := by
                rw [← stV_next (by rw [HM.out.2]; exact HMN.out) HPJ.out, hmo]
                exact hM4.mono (by omega)
              have hmk5 := hmk7.bel hb34 i2.nodef
              have hbV5 := hbV7.trans hb34
              have r8 := hb34.cell u8 (by simp; omega)
              have r14 := hb34.cell u14 (by simp; omega)
              clear hM4 hg4 hb34
              by_cases hm0 : m = 0
              · have hmz : ((m : Int) == (0 : Int)) = true := by simp [hm0]
                have hn0 : n0 = M := by have := HMN.out; omega
                have HOX : Hid (outV (farM f) f c n0 (j + 1) = max OV X) := by
                  have hp0 := HPJ.out
                  rw [hm0] at hp0
                  have h := outV_max hp0
                  rw [HM.out.2, ← hn0] at h
                  unfold Hid
                  rw [h, hOV.out, ← HX.out, hm0]
                clear hm0 hn0
                by_cases hox : OV < X
                · have hov : Hid (X = outV (farM f) f c n0 (j + 1)) := by unfold Hid; rw [HOX.out]; omega
                  exact absurd hox (by omega)
                · have hov : Hid (OV = outV (farM f) f c n0 (j + 1)) := by unfold Hid; rw [HOX.out]; omega
                  gi_wp2
                  refine ⟨⟨j + 1, _, _, rfl, rfl, ⟨rfl, rfl, rfl, rfl, rfl, rfl, rfl, rfl, rfl⟩, hov.out, by omega, hM5, hbV5, hmk5⟩, ?_⟩
                  simp [intOf]; omega
              · have hmz : ((m : Int) == (0 : Int)) = false := by simp [hm0]
                have hov : Hid (OV = outV (farM f) f c n0 (j + 1)) := by unfold Hid; rw [hOV.out, outV_same (by rw [HM.out.2]; have := HMN.out; omega)]
                gi_wp2
                refine ⟨⟨j + 1, _, _, rfl, rfl, ⟨rfl, rfl, rfl, rfl, rfl, rfl, rfl, rfl, rfl⟩, hov.out, by omega, hM5, hbV5, hmk5⟩, ?_⟩
                simp [intOf]; omega
          case stop =>
            rintro D c pre W _ _ h _
            exact h.elim
        · have hltj' : ¬ (j : Int) < ((canN (farM f) f c m).length : Int) := by omega
          have hMR : MapSp V (w2.heap.size + 1) ((n0 + 1) * 200) (stV (farM f) f c (n0 + 1) 0) := by
            rw [← stV_row n0 (j := j) (fun m' h => by
              obtain rfl : m' = m := by have := HM.out.2; have := HMN.out; omega
              omega)]
            exact hMV.mono (by omega)
          have hOV2 : Hid (OV = outV (farM f) f c (n0 + 1) 0) := by
            unfold Hid
            rw [hOV.out]
            exact outV_row (by rw [HM.out.2]; omega) (fun e => by
              obtain rfl : m = 0 := by have := HM.out.2; have := HMN.out; omega
              omega)
          have v8o := fun o => (Ext.alloc (Ext.refl V) o).cell v8
          obtain ⟨U, hU⟩ : ∃ U, V.alloc (.cells #[.int .i64 ((m : Int) - 1)] 3) = U := ⟨_, rfl⟩
          have hxU : Ext V U := by rw [← hU]; exact Ext.alloc (Ext.refl _) _
          have hbU := hbV1.trans (hxU.bel (D := w2.heap.size + 1))
          have hmkU := hmk.bel (hxU.bel (D := w2.heap.size + 1)) hMV.nodef
          have hMU := hMR.ext hxU
          have hBU : Box8 U V.heap.size ((M : Int) - ((n0 + 1 : Nat) : Int)) := by
            have := Box8.new V ((m : Int) - 1)
            rw [hU] at this
            rw [show (M : Int) - ((n0 + 1 : Nat) : Int) = (m : Int) - 1 by have := HMN.out; omega]
            exact this
          have hlt1 : n0 + 1 ≤ M + 1 := by omega
          have hBV : W1.heap.size ≤ V.heap.size := hbV1.size
          have hmeas : (boxInt U (.pointer (some ⟨V.heap.size, 0, none⟩)) + 1).toNat < (boxInt W (.pointer (some ⟨B11, 0, none⟩)) + 1).toNat := by
            rw [hBU.int, HBX.out.int]; omega
          gi_wp2
          try rw [hU]
          exact ⟨n0 + 1, V.heap.size, _, _, rfl, rfl, ⟨rfl, rfl, rfl, rfl, rfl, rfl⟩, hOV2.out, hlt1, hBV, hBU, hMU, hbU, hmkU⟩
    · have hn : n0 = M + 1 := by omega
      have hmv : (M : Int) - (n0 : Int) = -1 := by omega
      rw [hmv] at q8
      have hOVE : OV = stillM (farM f) f c := by rw [hOV.out, hn, ← HM.out.2]; exact outV_end
      subst hOVE
      clear hMS
      gi_wp2
      refine leaves_marks (by simp) _ _ hmk fun W' hb hc => ?_
      exact ⟨_, results_tmp2 rfl _ _ _, by rw [HV.out, HN.out]; rfl, Below.trans (hx2.trans x3) hb⟩
end Go.Proofs.YtpbpcplboikpcaaGreat
