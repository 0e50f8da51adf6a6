/- The Go function laurellaw10.WarnDecided returns true for every call, and leaves what is passed in as it was: no further condition. -/
import Derived.Test.YtgnjhaomlbkgcaaWOpen
import Derived.Test.YtgnjhaomlbkgcaaWMade
import Derived.Test.YtgnjhaomlbkgcaaWMadeP
import Derived.Test.YtgnjhaomlbkgcaaWClone
import Derived.Test.YtgnjhaomlbkgcaaOwn
import Derived.Test.YtgnjhaomlbkgcaaBelS
import Derived.Laws.CopyOwn
import Derived.Test.YtgnjhaomlbkgcaaTurn
import Derived.Laws.ResultCell
import Derived.Test.YtgnjhaomlbkgcaaWTruth
import Derived.Test.YtgnjhaomlbkgcaaWPath
import Derived.Test.YtgnjhaomlbkgcaaHolds
import Derived.Test.YtgnjhaomlbkgcaaWShows
import Derived.Test.YtgnjhaomlbkgcaaWWork
import Derived.BigQuiet
import Derived.Test.YtgnjhaomlbkgcaaKeep
import Derived.Test.YtgnjhaomlbkgcaaDecA
import Derived.Test.YtgnjhaomlbkgcaaWAwake
import Derived.Test.YtgnjhaomlbkgcaaWAsk
import Derived.Test.YtgnjhaomlbkgcaaDup
import Derived.Test.YtgnjhaomlbkgcaaRows
import Derived.Test.YtgnjhaomlbkgcaaLift
import Derived.WalkKit
import Derived.ProofKit
import Derived.OpenShut
import Derived.ShutString
import Derived.ChangeOld
import Derived.Below
namespace Go.Proofs.Ytgnjhaomlbkgcaa
open Go Go.RowKit Go.Shelf
set_option linter.unusedVariables false
set_option linter.unusedSimpArgs false

def pcells : List (Int × Int) → List Value
  | [] => []
  | p :: l => .int .i64 p.1 :: .int .i64 p.2 :: pcells l
theorem pcells_len (l : List (Int × Int)) : (pcells l).length = l.length * 2 := by
  induction l with
  | nil => rfl
  | cons p l ih => simp [pcells, ih]; omega
theorem pcells_app (l m : List (Int × Int)) : pcells (l ++ m) = pcells l ++ pcells m := by
  induction l with
  | nil => rfl
  | cons p l ih => simp [pcells, ih]
theorem pcells_get (l : List (Int × Int)) : ∀ (k : Nat) (p : Int × Int), l[k]? = some p → (pcells l)[k * 2]? = some (.int .i64 p.1) ∧ (pcells l)[k * 2 + 1]? = some (.int .i64 p.2) := by
  induction l with
  | nil => intro k p h; simp at h
  | cons b l ih =>
    intro k p h
    cases k with
    | zero => simp at h; subst h; simp [pcells]
    | succ k =>
      have := ih k p (by simpa using h)
      have e : (k + 1) * 2 = k * 2 + 1 + 1 := by omega
      rw [e]
      simp only [pcells, List.getElem?_cons_succ]
      exact this
theorem pcells_one (l : List (Int × Int)) : ∀ u ∈ pcells l, u.oneCell' = true := by
  induction l with
  | nil => intro u h; simp [pcells] at h
  | cons p l ih =>
    intro u h
    simp only [pcells, List.mem_cons] at h
    rcases h with rfl | rfl | h
    · rfl
    · rfl
    · exact ih u h
def Pairs (w : World) (A : Option Addr) (l : List (Int × Int)) : Prop := Rd w A (pcells l)
theorem Pairs.ext {w w' : World} {A : Option Addr} {l : List (Int × Int)} (h : Pairs w A l) (hx : Ext w w') : Pairs w' A l := Rd.ext h hx
theorem Pairs.at_ {w : World} {A : Option Addr} {l : List (Int × Int)} {k : Nat} {p : Int × Int} (h : Pairs w A l) (hk : l[k]? = some p) :
    ∃ b off, A = some ⟨b, off, none⟩ ∧ w.cell? ⟨b, off + k * 2, none⟩ = some (.int .i64 p.1) ∧ w.cell? ⟨b, off + k * 2 + 1, none⟩ = some (.int .i64 p.2) := by
  obtain ⟨h0, h1⟩ := pcells_get l k p hk
  obtain ⟨b, off, hA, hc⟩ := Rd.at_ h (by intro e; rw [e] at h0; simp at h0)
  exact ⟨b, off, hA, hc _ _ h0, hc _ _ h1⟩
theorem elem_pair : ElemOK Try.prog 89 92 2 16 := by
  refine ⟨Try.underlying89, ?_, by decide, by decide⟩
  have h : ((Try.prog.info? 92).bind fun i => i.zero.map fun z => (i.size, i.bytes, z.cells.size)) = some (2, 16, 2) := by kernel_rfl
  cases hi : Try.prog.info? 92 with
  | none => rw [hi] at h; cases h
  | some i =>
    rw [hi] at h
    cases hz : i.zero with
    | none => simp [hz] at h
    | some z => simp [hz] at h; exact ⟨i, z, rfl, hz, h.1, h.2.1, h.2.2⟩

def rowO (g : Mat) (x k : Nat) : List (Int × Int) :=
  (((List.range k).filter fun (y : Nat) => verdictM g x y == 1).map fun (y : Nat) => ((x : Int), (y : Int)))
def orderTo (g : Mat) (n a b : Nat) : List (Int × Int) := (List.range a).flatMap (fun x => rowO g x n) ++ rowO g a b
def orderL (c : Cs) : List (Int × Int) := orderTo (gapsM allT c) c.ev.toNat c.ev.toNat 0
theorem orderTo_step (g : Mat) (n a b : Nat) : orderTo g n a (b + 1) = orderTo g n a b ++ if verdictM g a b = 1 then [((a : Int), (b : Int))] else [] := by
  unfold orderTo rowO
  rw [List.range_succ, List.filter_append, List.map_append, List.append_assoc]
  congr 2
  by_cases h : verdictM g a b = 1 <;> simp [h]
theorem orderTo_next (g : Mat) (n a : Nat) : orderTo g n a n = orderTo g n (a + 1) 0 := by
  unfold orderTo
  rw [List.range_succ, List.flatMap_append]
  simp [rowO]
def OrderPost (w : World) (c : Cs) (e : Ending) (w' : World) : Prop :=
  ∃ r, e = .returned (.tuple #[r, .int .i64 (toldC c)]) ∧ Ext w w' ∧ (toldC c ≠ 0 → r = .slice none 0 0) ∧ (toldC c = 0 → ∃ A k, r = .slice A (orderL c).length k ∧ w'.ownsRow w.heap.size 92 2 (.slice A (orderL c).length k) (orderL c).length (pcells (orderL c)))

set_option maxRecDepth 100000 in
set_option maxHeartbeats 4000000 in
theorem order_any (v : Value) (c : Cs) (w : World) (hc : CsR w v c) (hs : c.sized) : Calls Try.prog 51 #[v] w (OrderPost w c) := by
  have hc' := hc
  obtain ⟨A1, c1, A2, c2, rfl, hB, hC⟩ := hc
  obtain ⟨T, hT⟩ : ∃ T, toldC c = T := ⟨_, rfl⟩
  have HT := hid hT
  go_enter Try.func51, Try.ntmps51
  go_wp2_with fail
  have hx0 : Ext w (w.alloc (.cells #[.int .i64 c.ev, .slice A1 c.bs.length c1, .int .i64 c.wi, .slice A2 c.cl.length c2] 26)) := Ext.alloc (Ext.refl w) _
  refine (told_any _ c _ (hc'.ext hx0) hs).mono ?_
  rw [hT]
  clear hT
  rintro e w1 ⟨r, rfl, hb1, hr1, hr2⟩
  have hx1 := hx0.trans hb1
  have kc0 := hb1.cell (p := ⟨w.heap.size, 0, none⟩) (u := .int .i64 c.ev) (by simp [go_sem])
  by_cases h0 : T = 0
  · have hr := hr1 h0
    have HC0 := toldC_check (HT.out.trans h0)
    obtain ⟨ev1, ev8⟩ := checkC_ev HC0
    subst h0
    obtain ⟨n, hn⟩ : ∃ n : Nat, c.ev = n := ⟨c.ev.toNat, by omega⟩
    have HN := hid hn
    obtain ⟨g, hg⟩ : ∃ g, gapsM allT c = g := ⟨_, rfl⟩
    have HG := hid hg
    rw [hg] at hr
    rw [hn] at kc0
    have hn8 : n ≤ 8 := by omega
    have HDK := hid hr
    clear hr1 hr2 hn hg ev1 ev8 hr HC0
    go_wp2
    go_loopw [6, 19] (fun o i wr => ∃ (a : Nat) (A : Option Addr) (k : Nat) (L : List (Int × Int)), o = .slice A L.length k ∧ i = .int .i64 (a : Int) ∧ a ≤ n ∧ L.length ≤ 8 * a ∧ Hid (L = orderTo g n a 0) ∧ Hid (wr.ownsRow w1.heap.size 92 2 (.slice A L.length k) L.length (pcells L)) ∧ Ext w1 wr) (fun _ i _ => n - (intOf i).toNat)
    case atStart => exact ⟨0, none, 0, [], rfl, rfl, Nat.zero_le _, by simp, by unfold Hid; simp [orderTo, rowO], own_nil _ _ _ _, Ext.refl _⟩
    case round =>
      obtain ⟨a, A, k, L, rfl, rfl, ha, hL, HL, O, hx⟩ := hrel
      by_cases hlt : a < n
      · have hlt' : (a : Int) < (n : Int) := by omega
        have kc1 := hx.cell kc0
        obtain ⟨wo, rfl⟩ : ∃ wo : World, wo = wr := ⟨_, rfl⟩
        go_wp2
        clear kc1
        go_loopw [6, 24] (fun o i wr => ∃ (b : Nat) (A : Option Addr) (k : Nat) (L : List (Int × Int)), o = .slice A L.length k ∧ i = .int .i64 (b : Int) ∧ b ≤ n ∧ L.length ≤ 8 * a + b ∧ Hid (L = orderTo g n a b) ∧ Hid (wr.ownsRow w1.heap.size 92 2 (.slice A L.length k) L.length (pcells L)) ∧ Ext w1 wr) (fun _ i _ => n - (intOf i).toNat)
        case atStart => exact ⟨0, A, k, L, rfl, rfl, Nat.zero_le _, by omega, HL, O, hx⟩
        case round =>
          obtain ⟨b, A, k, L, rfl, rfl, hb, hL, HL, O, hx⟩ := hrel
          by_cases hltb : b < n
          · have hltb' : (b : Int) < (n : Int) := by omega
            have HST := hid (orderTo_step g n a b)
            go_wp2_with fail
            have K := verdict_any r c g wr (HDK.out.ext hx) a b (by omega) (by omega)
            by_cases hv : verdictM g a b = 1
            · have HS2 : Hid (orderTo g n a (b + 1) = L ++ [((a : Int), (b : Int))]) := by unfold Hid; rw [HST.out, if_pos hv, HL.out]
              rw [hv] at K
              refine K.mono ?_
              rintro e w2 ⟨rfl, rfl⟩
              obtain ⟨wr, rfl⟩ : ∃ wr : World, wr = w2 := ⟨_, rfl⟩
              have hsz := hx.size
              have hx1s := hx1.size
              have hxo := Ext.alloc (Ext.refl wr) (.cells #[.int .i64 (a : Int), .int .i64 (b : Int)] 92)
              have hbase : w1.heap.size ≤ (wr.alloc (.cells #[.int .i64 (a : Int), .int .i64 (b : Int)] 92)).heap.size := by have := hxo.size; omega
              have O2 := hid (own_below O.out hxo)
              have hLb : (L.length + 1) * 16 ≤ 140737488355328 := by omega
              clear HST hv K HL O
              go_wp2_with (at_builtin; refine wpList_append_rd _ rfl _ _ 89 rfl elem_pair w1.heap.size _ L.length (pcells L) rfl O2.out _ 1 1 (pcells [((a : Int), (b : Int))]) rfl rfl (rd_block (heap_alloc_new wr _)) (pcells_one _) hLb hbase ?_)
              intro A5 c5 w5 hown5 hbel5 hgr5 _
              have hx5 : Ext w1 w5 := Below.trans (hx.trans hxo) hbel5
              have HL5 : Hid ((L ++ [((a : Int), (b : Int))]).length = L.length + 1) := by unfold Hid; simp
              have O5 : Hid (w5.ownsRow w1.heap.size 92 2 (.slice A5 (L ++ [((a : Int), (b : Int))]).length c5) (L ++ [((a : Int), (b : Int))]).length (pcells (L ++ [((a : Int), (b : Int))]))) := by
                unfold Hid; rw [HL5.out, pcells_app]; exact hown5
              have hl9 : (L ++ [((a : Int), (b : Int))]).length ≤ 8 * a + (b + 1) := by have := HL5.out; omega
              have hsl : Value.slice A5 (L.length + 1) c5 = .slice A5 (L ++ [((a : Int), (b : Int))]).length c5 := by simp
              have HSL := hid hsl
              clear hown5 hbel5 hgr5 O2 hxo hsl
              go_wp2
              go_roundw
              case rel => exact ⟨b + 1, A5, c5, L ++ [((a : Int), (b : Int))], HSL.out, by go_num, by omega, hl9, HS2.out.symm, O5, hx5⟩
              case measure => simp [intOf]; omega
            · have HS2 : Hid (orderTo g n a (b + 1) = L) := by unfold Hid; rw [HST.out, if_neg hv, HL.out, List.append_nil]
              obtain ⟨V, hV⟩ : ∃ V, verdictM g a b = V := ⟨_, rfl⟩
              rw [hV] at K hv
              have hvb : (V == 1) = false := by simpa using hv
              clear hV HST HL hv
              refine K.mono ?_
              rintro e w2 ⟨rfl, rfl⟩
              clear K
              go_wp2
              go_roundw
              case rel => exact ⟨b + 1, A, k, L, rfl, by go_num, by omega, by omega, HS2.out.symm, O, hx⟩
              case measure => simp [intOf]; omega
          · have hltb' : ¬ (b : Int) < (n : Int) := by omega
            have HL2 : Hid (L = orderTo g n (a + 1) 0) := by
              unfold Hid
              rw [HL.out, show b = n by omega, orderTo_next]
            go_wp2
            go_roundw
            case rel => exact ⟨a + 1, A, k, L, rfl, by go_num, by omega, by omega, HL2, O, hx⟩
            case measure => simp [intOf]; omega
      · have hlt' : ¬ (a : Int) < (n : Int) := by omega
        have HL2 : Hid (L = orderL c) := by
          unfold Hid orderL
          rw [HL.out, HG.out, HN.out, show a = n by omega]; rfl
        go_wp2
        go_ret2
        exact ⟨.slice A L.length k, by rw [HT.out]; rfl, hx1.trans hx, fun h => absurd HT.out h, fun _ => ⟨A, k, by rw [← HL2.out], by rw [← HL2.out]; exact own_base O.out hx1.size⟩⟩
  · have H0 := hid h0
    have hr := hr2 h0
    subst hr
    clear hr1 hr2
    go_wp2
    go_ret2
    exact ⟨.slice none 0 0, by rw [HT.out]; rfl, hx1, fun _ => rfl, fun h => absurd (HT.out.symm.trans h) H0.out⟩

/-! slices.Contains over pairs -/
def memP (p : Int × Int) (l : List (Int × Int)) : Bool := l.any fun q => p == q
theorem memP_iff {p : Int × Int} {l : List (Int × Int)} : memP p l = true ↔ p ∈ l := by
  unfold memP
  rw [List.any_eq_true]
  exact ⟨fun ⟨q, h, e⟩ => by rw [beq_iff_eq.1 e]; exact h, fun h => ⟨p, h, by simp⟩⟩
theorem pair_beq (p q : Int × Int) : ([p.1, p.2] == [q.1, q.2]) = (p == q) := by
  obtain ⟨a, b⟩ := p
  obtain ⟨c, d⟩ := q
  show ((a == c) && ((b == d) && true)) = ((a == c) && (b == d))
  rw [Bool.and_true]
set_option maxRecDepth 100000 in
set_option maxHeartbeats 2000000 in
theorem indexP_any (A : Option Addr) (k0 : Nat) (l : List (Int × Int)) (p : Int × Int) (w : World) (hA : Pairs w A l) (hl : l.length ≤ 1000000) :
    Calls Try.prog 105 #[.slice A l.length k0, .agg #[.int .i64 p.1, .int .i64 p.2]] w fun e w' => e = .returned (.int .i64 (idxF (fun q => p == q) l 0)) ∧ Ext w w' := by
  have HF : Hid (idxF (fun q => p == q) l 0 = idxF (fun q => p == q) (l.drop 0) 0) := rfl
  generalize hF : idxF (fun q => p == q) l 0 = F at HF ⊢
  clear hF
  go_enter Try.func105, Try.ntmps105
  go_wp2
  have x0 := Ext.alloc (Ext.refl w) (.cells #[.int .i64 p.1, .int .i64 p.2] 92)
  have k0' : (w.alloc (.cells #[.int .i64 p.1, .int .i64 p.2] 92)).cell? ⟨w.heap.size, 0, none⟩ = some (.int .i64 p.1) := by simp [go_sem]
  have k1' : (w.alloc (.cells #[.int .i64 p.1, .int .i64 p.2] 92)).cell? ⟨w.heap.size, 1, none⟩ = some (.int .i64 p.2) := by simp [go_sem]
  generalize hWo : w.alloc (.cells #[.int .i64 p.1, .int .i64 p.2] 92) = Wo at x0 k0' k1' ⊢
  clear hWo
  go_loopw [5, 8] (fun _ i wr => ∃ kk : Nat, kk ≤ l.length ∧ i = .int .i64 (kk : Int) ∧ Ext Wo wr ∧ Hid (F = idxF (fun q => p == q) (l.drop kk) kk)) (fun _ i _ => l.length - (intOf i).toNat)
  case atStart => exact ⟨0, Nat.zero_le _, rfl, Ext.refl _, HF⟩
  case round =>
    obtain ⟨kk, hk, rfl, hx, HF⟩ := hrel
    by_cases hlt : kk < l.length
    · have hlt' : (kk : Int) < (l.length : Int) := by omega
      obtain ⟨q, hq⟩ := get_of_lt l kk hlt
      obtain ⟨b, off, rfl, c0, c1⟩ := (hA.ext (x0.trans hx)).at_ hq
      have HD := hid (idxF_drop (fun q => p == q) l kk q hq)
      have r0 := hx.cell k0'
      have r1 := hx.cell k1'
      clear hq
      go_wp2
      have FX0 : ∀ w', Ext wr w' → w'.cell? ⟨w.heap.size, 0, none⟩ = some (.int .i64 p.1) ∧ w'.cell? ⟨w.heap.size, 1, none⟩ = some (.int .i64 p.2) ∧ w'.cell? ⟨b, off + kk * 2, none⟩ = some (.int .i64 q.1) ∧ w'.cell? ⟨b, off + kk * 2 + 1, none⟩ = some (.int .i64 q.2) :=
        fun w' h => ⟨h.cell r0, h.cell r1, h.cell c0, h.cell c1⟩
      have FX := hid FX0
      clear FX0 r0 r1 c0 c1
      refine wp_region_opens Ext (fun w' => Ext wr w') (fun _ => none) (by kernel_rfl) (by kernel_rfl) (fun _ _ h k => h.trans k) (fun i R hR => by cases hR) (Ext.drew (Ext.refl wr)) ?_
      refine wpM_val ?u0 rfl rfl Ext.refl (fun w' hD => ?h0) ?n0
      case h0 =>
        obtain ⟨d0, d1, d2, d3⟩ := FX.out w' hD.1
        go_simp; rfl
      simp only [Act.put, List.setIfInBounds_toArray, List.set_cons_succ, List.set_cons_zero, Nat.reduceAdd]
      refine wpM_val ?u1 rfl rfl Ext.refl (fun w' hD => ?h1) ?n1
      case h1 =>
        obtain ⟨d0, d1, d2, d3⟩ := FX.out w' hD.1
        go_simp; rfl
      simp only [Act.put, List.setIfInBounds_toArray, List.set_cons_succ, List.set_cons_zero, Nat.reduceAdd]
      refine wpM_val ?u2 rfl rfl Ext.refl (fun w' hD => ?h2) ?n2
      case h2 =>
        obtain ⟨d0, d1, d2, d3⟩ := FX.out w' hD.1
        go_simp; rfl
      simp only [Act.put, List.setIfInBounds_toArray, List.set_cons_succ, List.set_cons_zero, Nat.reduceAdd]
      refine wpM_val ?u3 rfl rfl Ext.refl (fun w' hD => ?h3) ?n3
      case h3 =>
        obtain ⟨d0, d1, d2, d3⟩ := FX.out w' hD.1
        go_simp; rfl
      simp only [Act.put, List.setIfInBounds_toArray, List.set_cons_succ, List.set_cons_zero, Nat.reduceAdd]
      refine wpM_val ?u4 rfl rfl Ext.refl (fun w' hD => ?h4) ?n4
      case h4 =>
        obtain ⟨d0, d1, d2, d3⟩ := FX.out w' hD.1
        go_simp; rfl
      simp only [Act.put, List.setIfInBounds_toArray, List.set_cons_succ, List.set_cons_zero, Nat.reduceAdd]
      refine wpM_val (.bool ([p.1, p.2] == [q.1, q.2])) rfl rfl Ext.refl (fun w' hD => ?hc5) ?nc5
      case hc5 =>
        refine run_eql_op w' _ 92 92 (.tmp 11) (.tmp 15) ?_ #[.int .i64 p.1, .int .i64 p.2] #[.int .i64 q.1, .int .i64 q.2] ?_ ?_ _ Try.eqGuardType92 (run_equalIn_arr1 w' 9998 92 3 .i64 2 Try.underlying92 Try.underlying3 (by kernel_rfl) (by kernel_rfl) [p.1, p.2] [q.1, q.2] rfl rfl)
        · rfl
        · rfl
        · rfl
      simp only [Act.put, List.setIfInBounds_toArray, List.set_cons_succ, List.set_cons_zero, Nat.reduceAdd]
      refine wpM_nil ?_
      intro w9 hw9 hF9
      rw [pair_beq]
      have hx9 := hx.trans hw9
      clear hF9 FX
      by_cases hpq : p = q
      · have hb : (p == q) = true := by simpa using hpq
        have HE : Hid (F = (kk : Int)) := by unfold Hid; rw [HF.out, HD.out, if_pos hb]
        rw [hb]
        clear hb hpq
        go_wp2
        go_ret
        exact ⟨ret_of (int_of HE.out.symm), x0.trans hx9⟩
      · have hb : (p == q) = false := by simpa using hpq
        have HE : Hid (F = idxF (fun q => p == q) (l.drop (kk + 1)) (kk + 1)) := by unfold Hid; rw [HF.out, HD.out, if_neg (by rw [hb]; simp)]
        rw [hb]
        clear hb hpq
        go_wp2
        go_roundw
        case rel => exact ⟨kk + 1, by omega, by go_num, hx9, HE⟩
        case measure => simp [intOf]; omega
    · have hlt' : ¬ (kk : Int) < (l.length : Int) := by omega
      have HE : Hid (F = -1) := by unfold Hid; rw [HF.out, idxF_end _ _ _ (by omega)]
      go_wp2
      go_ret
      exact ⟨ret_of (int_of HE.out.symm), x0.trans hx⟩
theorem containsP_any (A : Option Addr) (k0 : Nat) (l : List (Int × Int)) (p : Int × Int) (w : World) (hA : Pairs w A l) (hl : l.length ≤ 1000000) :
    Calls Try.prog 52 #[.slice A l.length k0, .agg #[.int .i64 p.1, .int .i64 p.2]] w fun e w' => e = .returned (.bool (memP p l)) ∧ Ext w w' := by
  have HM := hid (idxF_nonneg (fun q => p == q) l 0)
  go_enter Try.func52, Try.ntmps52
  go_wp2_with fail
  have x0 := Ext.alloc (Ext.refl w) (.cells #[.int .i64 p.1, .int .i64 p.2] 92)
  refine (indexP_any A k0 l p _ (hA.ext x0) hl).mono ?_
  rintro e w1 ⟨rfl, hb⟩
  go_wp2
  go_ret
  exact ⟨ret_of (bool_of HM.out), x0.trans hb⟩
end Go.Proofs.Ytgnjhaomlbkgcaa

namespace Go.Proofs.Ytgnjhaomlbkgcaa
open Go Go.RowKit
set_option linter.unusedVariables false
set_option linter.unusedSimpArgs false

def toldBC (c : Cs) (b : Bd) : Int := if checkC c ≠ 0 then checkC c else if bdsC c.ev [b] ≠ 0 then bdsC c.ev [b] else if b.f = b.t then 5 else if c.bs.length = 20 then 2 else 0
def Cs.add (c : Cs) (b : Bd) : Cs := { c with bs := c.bs ++ [b] }
theorem mem_rowO {g : Mat} {x k : Nat} {p : Int × Int} : p ∈ rowO g x k ↔ ∃ y : Nat, y < k ∧ verdictM g x y = 1 ∧ p = ((x : Int), (y : Int)) := by
  unfold rowO
  simp only [List.mem_map, List.mem_filter, List.mem_range, beq_iff_eq]
  exact ⟨fun ⟨y, ⟨h1, h2⟩, h3⟩ => ⟨y, h1, h2, h3.symm⟩, fun ⟨y, h1, h2, h3⟩ => ⟨y, ⟨h1, h2⟩, h3.symm⟩⟩
theorem mem_orderL {c : Cs} {p : Int × Int} (hev : 0 ≤ c.ev) : p ∈ orderL c ↔ ∃ x y : Nat, (x : Int) < c.ev ∧ (y : Int) < c.ev ∧ verdictM (gapsM allT c) x y = 1 ∧ p = ((x : Int), (y : Int)) := by
  unfold orderL orderTo
  rw [show rowO (gapsM allT c) c.ev.toNat 0 = [] by simp [rowO], List.append_nil, List.mem_flatMap]
  constructor
  · rintro ⟨x, hx, hp⟩
    obtain ⟨y, h1, h2, h3⟩ := mem_rowO.1 hp
    have := List.mem_range.1 hx
    exact ⟨x, y, by omega, by omega, h2, h3⟩
  · rintro ⟨x, y, hx, hy, hv, hp⟩
    exact ⟨x, List.mem_range.2 (by omega), mem_rowO.2 ⟨y, by omega, hv, hp⟩⟩
theorem add_all_mem {c : Cs} {b x : Bd} : x ∈ (c.add b).all ↔ x ∈ c.all ∨ x = b := by
  rw [all_mem, all_mem]
  unfold Cs.add
  simp only [List.mem_append, List.mem_singleton]
  constructor
  · rintro ((h | h) | h)
    · exact .inl (.inl h)
    · exact .inr h
    · exact .inl (.inr h)
  · rintro ((h | h) | h)
    · exact .inl (.inl h)
    · exact .inr h
    · exact .inl (.inr h)
theorem add_check {evm bm cm : Nat} {lo l2 h2 : Int} {c : Cs} {real : List Int} {b : Bd} (h : MadeOK evm bm cm lo c real) (hlo : lo ≤ 0) (hlo2 : -500 ≤ lo) (he : evm ≤ 8) (hb : bm < 20) (hc : cm ≤ 8) (hl2 : -500 ≤ l2) (hh2 : h2 ≤ 500) (hbd : bdMade c.ev real l2 h2 b) : checkC (c.add b) = 0 := by
  have hb1 : (c.bs ++ [b]).length = c.bs.length + 1 := by simp
  refine checkC_of ⟨by show 1 ≤ c.ev; have := h.ev2; omega, by show c.ev ≤ 8; have := h.evm; omega⟩ (by show (c.bs ++ [b]).length ≤ 20; have := h.bsl; omega) h.wi (Nat.le_trans h.cll hc) (fun x hx => ⟨by have := (h.cl x hx).2.1; omega, (h.cl x hx).1⟩) (fun x hq => ?_)
  have r1 := getD_real h.real_ x.t.toNat
  have r2 := getD_real h.real_ x.f.toNat
  rcases add_all_mem.1 hq with h1 | rfl
  · obtain ⟨p1, p2, p3, p4, p5⟩ := h.all_ hlo x h1
    exact ⟨p1, p2, p3, by omega, by omega⟩
  · obtain ⟨p1, p2, p3, p4, p5⟩ := hbd
    exact ⟨p1, p2, p3, by omega, by omega⟩
theorem add_told {evm bm cm : Nat} {lo l2 h2 : Int} {c : Cs} {real : List Int} {b : Bd} (h : MadeOK evm bm cm lo c real) (hlo : lo ≤ 0) (hlo2 : -500 ≤ lo) (he : evm ≤ 8) (hb : bm < 20) (hc : cm ≤ 8) (hl2 : -500 ≤ l2) (hh2 : h2 ≤ 500) (hbd : bdMade c.ev real l2 h2 b) : toldBC c b = 0 := by
  have h0 := h.check hlo hlo2 he (by omega) hc
  obtain ⟨p1, p2, p3, p4, p5⟩ := hbd
  have r1 := getD_real h.real_ b.t.toNat
  have r2 := getD_real h.real_ b.f.toNat
  have e1 : bdsC c.ev [b] = 0 := by
    unfold bdsC
    have a1 : limOK [b] = true := by simp only [limOK, List.all_cons, List.all_nil, Bool.and_true, inB_iff]; omega
    have a2 : evOK c.ev [b] = true := by simp only [evOK, List.all_cons, List.all_nil, Bool.and_true, Bool.and_eq_true, inB_iff]; omega
    rw [a1, a2]; rfl
  unfold toldBC
  rw [if_neg (by rw [h0]; simp), if_neg (by rw [e1]; simp), if_neg p3, if_neg (by have := h.bsl; omega)]
theorem told_ok {c : Cs} (h0 : checkC c = 0) : toldC c = 0 ∨ toldC c = 7 := by
  unfold toldC
  rw [if_pos h0]
  cases clashM (gapsM allT c) <;> simp
theorem told_fine {c : Cs} (h : toldC c = 0) : Fine c.all := by
  have h0 := toldC_check h
  unfold toldC at h
  rw [if_pos h0] at h
  have h1 : clashM (gapsM allT c) = false := by cases hq : clashM (gapsM allT c) with
    | false => rfl
    | true => rw [hq] at h; cases h
  have := fine_of h0 h1
  rwa [belL_all] at this
structure ToldLaw (c u : Cs) (real : List Int) (x y : Nat) : Prop where
  be : (beforeOf c x y).2 = 0
  bu : (beforeOf u x y).2 = 0
  keep : (beforeOf c x y).1 ≠ 0 → (beforeOf u x y).1 = (beforeOf c x y).1
  gap : (gapOf c x y).2 = 0 → (gapOf u x y).2 = 0 ∧ (gapOf u x y).1 ≤ (gapOf c x y).1
  yes : (beforeOf c x y).1 = 1 ↔ ((x : Int), (y : Int)) ∈ orderL c
  yesu : (beforeOf u x y).1 = 1 ↔ ((x : Int), (y : Int)) ∈ orderL u
theorem verdict_keep {c u : Cs} (h0 : checkC c = 0) (u0 : checkC u = 0) (hf : Fine c.all) (uf : Fine u.all) (hsub : ∀ x ∈ c.all, x ∈ u.all) {x y : Nat} (hx : x < 8) (hy : y < 8) :
    (gapsM allT c x y ≠ far → gapsM allT u x y ≠ far ∧ gapsM allT u x y ≤ gapsM allT c x y) ∧ (verdictM (gapsM allT c) x y ≠ 0 → verdictM (gapsM allT u) x y = verdictM (gapsM allT c) x y) := by
  have hf' : Fine (belL allT c) := by rw [belL_all]; exact hf
  have uf' : Fine (belL allT u) := by rw [belL_all]; exact uf
  have key : ∀ a b : Nat, a < 8 → b < 8 → gapsM allT c a b ≠ far → gapsM allT u a b ≠ far ∧ gapsM allT u a b ≤ gapsM allT c a b := fun a b ha hb hn => by
    obtain ⟨l, hl, hs⟩ := gap_row h0 ha hb hn
    have hl2 : Row (belL allT u) a b l := hl.mono (fun z hz => by rw [belL_all] at hz ⊢; exact hsub z hz)
    have := gap_le u0 uf' ha hb hl2
    exact ⟨gap_lt_far u0 uf' ha hb hl2, by omega⟩
  refine ⟨key x y hx hy, fun hv => ?_⟩
  unfold verdictM at hv ⊢
  by_cases h1 : gapsM allT c y x < 0
  · have := key y x hy hx (by unfold far; omega)
    rw [if_pos (by omega), if_pos h1]
  · rw [if_neg h1] at hv ⊢
    by_cases h2 : gapsM allT c x y ≤ 0
    · have k2 := key x y hx hy (by unfold far; omega)
      have h3 : ¬ gapsM allT u y x < 0 := fun hlt => by
        obtain ⟨l1, r1, s1⟩ := gap_row u0 hx hy k2.1
        obtain ⟨l2, r2, s2⟩ := gap_row u0 hy hx (by unfold far; omega : gapsM allT u y x ≠ far)
        have := uf' x _ hx (r1.app r2)
        rw [sumW_app] at this
        omega
      rw [if_neg h3, if_pos (by omega), if_pos h2]
    · rw [if_neg h2] at hv; exact absurd rfl hv
theorem told_law {c u : Cs} {real : List Int} (h0 : checkC c = 0) (u0 : checkC u = 0) (hf : Fine c.all) (uf : Fine u.all) (hev : u.ev = c.ev) (hsub : ∀ x ∈ c.all, x ∈ u.all) (hev8 : c.ev ≤ 8) {x y : Nat} (hx : (x : Int) < c.ev) (hy : (y : Int) < c.ev) : ToldLaw c u real x y := by
  have K := verdict_keep h0 u0 hf uf hsub (show x < 8 by omega) (show y < 8 by omega)
  have ux : (x : Int) < u.ev := by omega
  have uy : (y : Int) < u.ev := by omega
  have e1 := before_is h0 hf hx hy
  have e2 := before_is u0 uf ux uy
  have e3 := gap_is h0 hf hx hy
  have e4 := gap_is u0 uf ux uy
  have hme : ∀ d : Cs, checkC d = 0 → d.ev = c.ev → (verdictM (gapsM allT d) x y = 1 ↔ ((x : Int), (y : Int)) ∈ orderL d) := fun d hd he => by
    have := (checkC_ev hd).1
    rw [mem_orderL (by omega)]
    constructor
    · intro h; exact ⟨x, y, by omega, by omega, h, rfl⟩
    · rintro ⟨x', y', _, _, h, e⟩
      have e5 : (x : Int) = x' := congrArg Prod.fst e
      have e6 : (y : Int) = y' := congrArg Prod.snd e
      have e7 : x = x' := by omega
      have e8 : y = y' := by omega
      rw [e7, e8]; exact h
  refine ⟨by rw [e1], by rw [e2], by rw [e1, e2]; exact K.2, ?_, by rw [e1]; exact hme c h0 rfl, by rw [e2]; exact hme u u0 hev⟩
  rw [e3, e4]
  by_cases hfar : gapsM allT c x y = far
  · rw [if_pos hfar]; intro h; cases h
  · obtain ⟨k1, k2⟩ := K.1 hfar
    rw [if_neg hfar, if_neg k1]
    exact fun _ => ⟨rfl, k2⟩
theorem order_real {c : Cs} {real : List Int} (h0 : checkC c = 0) (ht : TruthOf c.all (fun k => real.getD k 0)) {p : Int × Int} (hp : p ∈ orderL c) : real.getD p.1.toNat 0 < real.getD p.2.toNat 0 := by
  have hev := (checkC_ev h0)
  obtain ⟨x, y, hx, hy, hv, rfl⟩ := (mem_orderL (by omega)).1 hp
  have hg : gapsM allT c y x < 0 := by
    unfold verdictM at hv
    split at hv
    · assumption
    · split at hv <;> cases hv
  have ht' : TruthOf (belL allT c) (fun k => real.getD k 0) := by rw [belL_all]; exact ht
  have := ht'.gap h0 (a := y) (b := x) (by omega) (by omega) (by unfold far; omega)
  simp only [Int.toNat_natCast]
  omega
theorem rowO_len (g : Mat) (x k : Nat) : (rowO g x k).length ≤ k := by
  unfold rowO
  rw [List.length_map]
  exact Nat.le_trans (List.length_filter_le _ _) (by simp)
theorem flat_rows (g : Mat) (n : Nat) : ∀ a : Nat, ((List.range a).flatMap (fun x => rowO g x n)).length ≤ a * n := by
  intro a
  induction a with
  | zero => simp
  | succ a ih =>
    rw [List.range_succ, List.flatMap_append, List.length_append, Nat.succ_mul]
    have := rowO_len g a n
    simp only [List.flatMap_cons, List.flatMap_nil, List.append_nil]
    omega
theorem orderL_len {c : Cs} (h : c.ev ≤ 8) : (orderL c).length ≤ 64 := by
  unfold orderL orderTo
  rw [show rowO (gapsM allT c) c.ev.toNat 0 = [] by simp [rowO], List.append_nil]
  refine Nat.le_trans (flat_rows _ _ _) ?_
  have h1 : c.ev.toNat ≤ 8 := by omega
  exact Nat.mul_le_mul h1 h1
theorem order_sub {c u : Cs} (h0 : checkC c = 0) (u0 : checkC u = 0) (hf : Fine c.all) (uf : Fine u.all) (hev : u.ev = c.ev) (hsub : ∀ x ∈ c.all, x ∈ u.all) {p : Int × Int} (hp : p ∈ orderL c) : p ∈ orderL u := by
  have e1 := checkC_ev h0
  have e2 := checkC_ev u0
  obtain ⟨x, y, hx, hy, hv, rfl⟩ := (mem_orderL (by omega)).1 hp
  refine (mem_orderL (by omega)).2 ⟨x, y, by omega, by omega, ?_, rfl⟩
  rw [(verdict_keep h0 u0 hf uf hsub (show x < 8 by omega) (show y < 8 by omega)).2 (by rw [hv]; decide), hv]
end Go.Proofs.Ytgnjhaomlbkgcaa

namespace Go.Proofs.Ytgnjhaomlbkgcaa
open Go Go.RowKit Go.Shelf
set_option linter.unusedVariables false
set_option linter.unusedSimpArgs false

/-- Claims whose bounds lie in rows of the call's own. -/
def ClW (w : World) (B : Nat) : List Value → List Cl → Prop
  | [], [] => True
  | a :: b :: xs, x :: l => a = .int .i64 x.w ∧ (∃ A k, b = .slice A x.bs.length k ∧ w.ownsRow B 35 3 (.slice A x.bs.length k) x.bs.length (bcells x.bs)) ∧ ClW w B xs l
  | _, _ => False
theorem ClW.keep {w w' : World} {B : Nat} (hk : ∀ v n ys, w.ownsRow B 35 3 v n ys → w'.ownsRow B 35 3 v n ys) : ∀ {xs : List Value} {l : List Cl}, ClW w B xs l → ClW w' B xs l
  | [], [], _ => trivial
  | _ :: _ :: xs, _ :: l, ⟨h1, ⟨A, k, h2, h3⟩, h4⟩ => ⟨h1, ⟨A, k, h2, hk _ _ _ h3⟩, ClW.keep hk h4⟩
  | [], _ :: _, h => h.elim
  | _ :: _, [], h => by rename_i xs; cases xs <;> exact h.elim
  | [_], _ :: _, h => h.elim
theorem ClW.ext {w w' : World} {B : Nat} {xs : List Value} {l : List Cl} (h : ClW w B xs l) (hx : Ext w w') : ClW w' B xs l := h.keep fun _ _ _ ho => own_below ho hx
theorem ClW.base {w : World} {B B' : Nat} (hb : B' ≤ B) : ∀ {xs : List Value} {l : List Cl}, ClW w B xs l → ClW w B' xs l
  | [], [], _ => trivial
  | _ :: _ :: xs, _ :: l, ⟨h1, ⟨A, k, h2, h3⟩, h4⟩ => ⟨h1, ⟨A, k, h2, own_base h3 hb⟩, ClW.base hb h4⟩
  | [], _ :: _, h => h.elim
  | _ :: _, [], h => by rename_i xs; cases xs <;> exact h.elim
  | [_], _ :: _, h => h.elim
theorem ClW.app {w : World} {B : Nat} : ∀ {xs ys : List Value} {l m : List Cl}, ClW w B xs l → ClW w B ys m → ClW w B (xs ++ ys) (l ++ m)
  | [], _, [], _, _, hy => hy
  | _ :: _ :: xs, _, _ :: l, _, ⟨h1, h2, h4⟩, hy => ⟨h1, h2, ClW.app h4 hy⟩
  | [], _, _ :: _, _, h, _ => h.elim
  | [_], _, [], _, h, _ => h.elim
  | _ :: _ :: _, _, [], _, h, _ => h.elim
  | [_], _, _ :: _, _, h, _ => h.elim
theorem ClW.toC {w : World} {B : Nat} : ∀ {xs : List Value} {l : List Cl}, ClW w B xs l → ClC w xs l
  | [], [], _ => trivial
  | _ :: _ :: xs, _ :: l, ⟨h1, ⟨A, k, h2, h3⟩, h4⟩ => ⟨h1, ⟨A, k, h2, Rd.of_own h3⟩, ClW.toC h4⟩
  | [], _ :: _, h => h.elim
  | _ :: _, [], h => by rename_i xs; cases xs <;> exact h.elim
  | [_], _ :: _, h => h.elim
/-- A row of another type is not touched by what is stored into a row of claims. -/
theorem own_apart {w w' : World} {B g : Nat} {v : Value} {n : Nat} {ys : List Value} (hx : BelS (fun i => i = g) w w') (hg : ∃ cur, w.heap[g]? = some (.cells cur 37 (0, 0))) (h : w.ownsRow B 35 3 v n ys) : w'.ownsRow B 35 3 v n ys := by
  refine hx.own h fun i hi e => ?_
  obtain ⟨A, c, rfl⟩ := own_slice h
  obtain ⟨a, rfl, ha⟩ := slice_own hi
  obtain ⟨i2, hi2⟩ := own_at h (by simp)
  cases hi2
  have e2 : i2 = i := ha
  exact ty_ne (own_ty h) hg (by decide) (e2.trans e)

def TwinPost (w : World) (A : Option Addr) (l : List Cl) (e : Ending) (w' : World) : Prop :=
  ∃ A' c' xs, e = .returned (.slice A' l.length c') ∧ w'.ownsRow w.heap.size 37 2 (.slice A' l.length c') l.length xs ∧ ClW w' w.heap.size xs l ∧ (A' = none ↔ A = none) ∧ Ext w w'

set_option maxRecDepth 100000 in
set_option maxHeartbeats 4000000 in
theorem twin_any (A : Option Addr) (k0 : Nat) (l : List Cl) (w : World) (xs0 : List Value) (hR : Rd w A xs0) (hC0 : ClC w xs0 l) (hl2 : l.length * 32 ≤ 140737488355328) (hl3 : ∀ x ∈ l, x.bs.length * 24 ≤ 140737488355328) :
    Calls Try.prog 104 #[.slice A l.length k0] w (TwinPost w A l) := by
  have HL3 := hid hl3
  clear hl3
  go_enter Try.func104, Try.ntmps104
  go_wp2_with fail
  refine (clone_claim A k0 l w xs0 hR hC0 hl2).mono ?_
  rintro e w1 ⟨A', c', rfl, ho, hnn, hx1⟩
  have O1 := hid ho
  have HNN := hid hnn
  have HR0 : Hid (ClC w xs0 (l.drop 0)) := hC0
  clear ho hnn
  go_wp2
  go_loopw [10] (fun i wr => ∃ (k : Nat) (xd xr : List Value), i = .int .i64 (k : Int) ∧ k ≤ l.length ∧ Hid (xd.length = k * 2) ∧ Hid (wr.ownsRow w.heap.size 37 2 (.slice A' l.length c') l.length (xd ++ xr)) ∧ Hid (ClW wr w.heap.size xd (l.take k)) ∧ Hid (ClC w xr (l.drop k)) ∧ Ext w wr) (fun i _ => l.length - (intOf i).toNat)
  case atStart => exact ⟨0, [], xs0, rfl, Nat.zero_le _, rfl, O1, trivial, HR0, hx1⟩
  case round =>
    obtain ⟨k, xd, xr, rfl, hk, HXD, O2, HCO, HCR, hx⟩ := hrel
    by_cases hlt : k < l.length
    · have hlt' : (k : Int) < (l.length : Int) := by omega
      obtain ⟨x, hxk⟩ := get_of_lt l k hlt
      have hdk : l.drop k = x :: l.drop (k + 1) := by rw [List.drop_eq_getElem_cons hlt, (List.getElem?_eq_some_iff.1 hxk).2]
      have htk : l.take (k + 1) = l.take k ++ [x] := by rw [List.take_succ_eq_append_getElem hlt, (List.getElem?_eq_some_iff.1 hxk).2]
      have hcr := HCR.out
      rw [hdk] at hcr
      obtain ⟨A3, k3, ys, rfl, hBx, hys⟩ := hcr.drop1
      have hl3 := HL3.out x (mem_of_get hxk)
      have HTK := hid htk
      have HYS : Hid (ClC w ys (l.drop (k + 1))) := hys
      obtain ⟨g2, hg2e⟩ : ∃ g, A' = some ⟨g, 0, none⟩ := by
        rcases O2.out.2 with ⟨_, h0⟩ | ⟨g, _, _, h, _⟩
        · omega
        · cases h; exact ⟨g, rfl⟩
      subst hg2e
      have c0 := O2.out.cellAt (k * 2) (by omega)
      have c1 := O2.out.cellAt (k * 2 + 1) (by omega)
      rw [List.getElem?_append_right (by rw [HXD.out]; omega), HXD.out, show k * 2 - k * 2 = 0 by omega] at c0
      rw [List.getElem?_append_right (by rw [HXD.out]; omega), HXD.out, show k * 2 + 1 - k * 2 = 1 by omega] at c1
      simp only [List.getElem?_cons_zero, List.getElem?_cons_succ] at c0 c1
      clear hdk htk hcr hys HCR hxk
      go_wp2_with fail
      have xo := Ext.alloc (Ext.refl wr) (.cells #[.int .i64 x.w, .slice A3 x.bs.length k3] 37)
      refine (clone_bound A3 k3 x.bs _ ((hBx.ext hx).ext xo) (by omega)).mono ?_
      rintro e w9 ⟨A5, c5, rfl, ho5, _, hx5⟩
      have x9 := xo.trans hx5
      have hsz := xo.size
      have hsz2 := hx.size
      have O29 := hid (own_below O2.out x9)
      have hf := O29.out.frozenAt
      have hfk := hf (k * 2 + 1)
      have hck := O29.out.cellAt (k * 2 + 1) (by omega)
      rw [List.getElem?_append_right (by rw [HXD.out]; omega), HXD.out, show k * 2 + 1 - k * 2 = 1 by omega] at hck
      simp only [List.getElem?_cons_zero, List.getElem?_cons_succ] at hck
      have O5 := hid (own_base (base' := w.heap.size) ho5 (by omega))
      have hgB : w.heap.size ≤ g2 := (O29.out.lt g2 rfl).1
      clear hf ho5 c0 c1
      go_wp2
      have st := O29.out.stored (k * 2 + 1) (.slice A5 x.bs.length c5)
      have xg : BelS (fun i => i = g2) w9 (w9.setCell ⟨g2, k * 2 + 1, none⟩ (.slice A5 x.bs.length c5)) := BelS.setCell (S := fun i => i = g2) (BelS.refl _ w9) _ _ rfl
      have xf : Ext w (w9.setCell ⟨g2, k * 2 + 1, none⟩ (.slice A5 x.bs.length c5)) := (hx.trans x9).setCell hgB _
      have hT2 := own_ty O29.out
      have N2 : Hid ((w9.setCell ⟨g2, k * 2 + 1, none⟩ (.slice A5 x.bs.length c5)).ownsRow w.heap.size 37 2 (.slice (some ⟨g2, 0, none⟩) l.length c') l.length ((xd ++ [.int .i64 x.w, .slice A5 x.bs.length c5]) ++ ys)) := by
        have h1 := st.1
        rw [List.set_append_right _ _ (by rw [HXD.out]; omega), HXD.out, show k * 2 + 1 - k * 2 = 1 by omega] at h1
        unfold Hid
        simpa using h1
      have NC : Hid (ClW (w9.setCell ⟨g2, k * 2 + 1, none⟩ (.slice A5 x.bs.length c5)) w.heap.size (xd ++ [.int .i64 x.w, .slice A5 x.bs.length c5]) (l.take (k + 1))) := by
        unfold Hid
        rw [HTK.out]
        exact ClW.app (m := [x]) ((HCO.out.ext x9).keep fun v n ys ho => own_apart xg hT2 ho) ⟨rfl, ⟨A5, c5, rfl, own_apart xg hT2 O5.out⟩, trivial⟩
      have NX : Hid ((xd ++ [Value.int .i64 x.w, Value.slice A5 x.bs.length c5]).length = (k + 1) * 2) := by unfold Hid; simp [HXD.out]; omega
      clear st xg hck hfk HCO HTK HXD O29 O2 O5 hx x9 hx5 xo hT2
      go_wp2
      go_roundw
      case rel => exact ⟨k + 1, xd ++ [.int .i64 x.w, .slice A5 x.bs.length c5], ys, by go_num, by omega, NX, N2, NC, HYS, xf⟩
      case measure => simp [intOf]; omega
    · have hlt' : ¬ (k : Int) < (l.length : Int) := by omega
      have hxr : xr = [] := by
        have := HCR.out
        rw [List.drop_eq_nil_of_le (by omega)] at this
        exact this.nil_
      subst hxr
      have hcl := HCO.out
      rw [List.take_of_length_le (by omega)] at hcl
      have ho2 := O2.out
      rw [List.append_nil] at ho2
      have H1 := hid hcl
      have H2 := hid ho2
      clear hcl ho2
      go_wp2
      go_ret
      exact ⟨A', c', xd, rfl, H2.out, H1.out, HNN.out, hx⟩
end Go.Proofs.Ytgnjhaomlbkgcaa

namespace Go.Proofs.Ytgnjhaomlbkgcaa
open Go Go.RowKit
set_option linter.unusedVariables false
set_option linter.unusedSimpArgs false

section
variable {P : Program}
theorem run_copy_sized (w : World) (dT sT ty elem : TypeId) (sz g o dLen dCap : Nat) (a : Addr) (sLen sCap n : Nat) (cur : Array Value) (t : TypeId) (cs : List Value)
    (hu : P.underlying dT = some (.slice elem)) (hs : (P.info? elem).map (·.size) = some sz)
    (hg : w.heap[g]? = some (.cells cur t (0, 0))) (hn : n = Nat.min sLen dLen) (hcl : cs.length = n * sz)
    (hsrc : ∀ j v, cs[j]? = some v → w.cell? (a.add j) = some v) (hfit : o + cs.length ≤ cur.size) (h1 : ∀ v ∈ cs, v.oneCell' = true) :
    (Builtin.copy_ #[dT, sT] ty #[.slice (some ⟨g, o, none⟩) dLen dCap, .slice (some a) sLen sCap]).run P w =
      .ok (goInt n) (w.setRow g (cur.toList.take o ++ cs ++ cur.toList.drop (o + cs.length)).toArray) := by
  have hl := run_loadCells_list (P := P) w a cs hsrc
  have hst := run_storeCells_at P g o t cs 0 cur w hg (by simpa using hfit) h1
  rw [hcl] at hl
  cases hq : P.info? elem with
  | none => simp [hq] at hs
  | some i =>
    have hi : i.size = sz := by simpa [hq] using hs
    simp [Builtin.copy_, run_underlying hu, Builtin.lenOf, Builtin.firstCells, sizeOf, typeInfo, hq, hi, ← hn, hl, hst]
theorem run_copy_zero (w : World) (dT sT ty elem : TypeId) (sz : Nat) (dp sp : Option Addr) (dLen dCap sLen sCap : Nat) (hu : P.underlying dT = some (.slice elem)) (hs : (P.info? elem).map (·.size) = some sz) (hn : Nat.min sLen dLen = 0) :
    (Builtin.copy_ #[dT, sT] ty #[.slice dp dLen dCap, .slice sp sLen sCap]).run P w = .ok (goInt 0) w := by
  cases hq : P.info? elem with
  | none => simp [hq] at hs
  | some i =>
    have hi : i.size = sz := by simpa [hq] using hs
    have hl : ∀ (x : Addr), (loadCells x 0).run P w = .ok #[] w := fun x => by simpa using run_loadCells_list (P := P) w x [] (by simp)
    cases dp <;> cases sp <;> simp [Builtin.copy_, run_underlying hu, Builtin.lenOf, Builtin.firstCells, sizeOf, typeInfo, hq, hi, hn, storeCells, hl]

/-- copy into a row of the call's own that is at least as long. -/
theorem run_copy_into (w : World) (dT sT ty elem e : TypeId) (sz : Nat) {B N cap g : Nat} {xs : List Value} (hu : P.underlying dT = some (.slice elem)) (hs : (P.info? elem).map (·.size) = some sz)
    (hown : w.ownsRow B e sz (.slice (some ⟨g, 0, none⟩) N cap) N xs) (A : Option Addr) (m c : Nat) (cs : List Value) (hm : m ≤ N) (hcl : cs.length = m * sz) (hr : Rd w A cs) (h1 : ∀ v ∈ cs, v.oneCell' = true) (hsz : 0 < sz) :
    ∃ w', (Builtin.copy_ #[dT, sT] ty #[.slice (some ⟨g, 0, none⟩) N cap, .slice A m c]).run P w = .ok (goInt m) w' ∧ w'.ownsRow B e sz (.slice (some ⟨g, 0, none⟩) N cap) N (cs ++ xs.drop (m * sz)) ∧ BelS (fun k => k = g) w w' := by
  have hmin : m = Nat.min m N := (Nat.min_eq_left hm).symm
  rcases Nat.eq_zero_or_pos m with h0 | h0
  · subst h0
    have hcs : cs = [] := List.eq_nil_of_length_eq_zero (by simpa using hcl)
    subst hcs
    exact ⟨w, run_copy_zero w dT sT ty elem sz _ A N cap 0 c hu hs (by simp), by simpa using hown, BelS.refl _ _⟩
  · have hne : cs ≠ [] := by
      intro e; subst e
      have := Nat.mul_pos h0 hsz
      simp at hcl; omega
    obtain ⟨b, off, rfl, hc⟩ := hr.at_ hne
    rcases hown.2 with ⟨h, _⟩ | ⟨g', cap', cur, h, hb, hg, hnc, hcm, hcs, htake⟩
    · cases h
    · cases h
      have hmN : m * sz ≤ N * sz := Nat.mul_le_mul_right sz hm
      have hNc : N * sz ≤ cap * sz := Nat.mul_le_mul_right sz hnc
      have hrun := run_copy_sized (P := P) w dT sT ty elem sz g 0 N cap ⟨b, off, none⟩ m c m cur e cs hu hs hg hmin hcl (fun j v hv => by rw [Addr.add_lit]; exact hc j v hv) (by omega) h1
      refine ⟨_, hrun, ⟨?_, .inr ⟨g, cap, _, rfl, hb, setRow_heap w g cur _ e (0, 0) hg, hnc, hcm, ?_, ?_⟩⟩, ?_⟩
      · rw [List.length_append, List.length_drop, hown.1]; omega
      · simp only [List.take_zero, List.nil_append, Nat.zero_add, List.size_toArray, List.length_append, List.length_drop, Array.length_toList]
        omega
      · simp only [List.take_zero, List.nil_append, Nat.zero_add]
        rw [← htake, List.drop_take, List.take_append, List.take_of_length_le (by omega), hcl]
      · exact ⟨⟨rfl, rfl, rfl, by simp, fun k hk => absurd hk (Nat.not_lt_zero _)⟩, fun k _ hk => setRow_other w g k _ hk⟩
theorem wpList_copy_into (w : World) {ops : Array Oper} {rest : List Oper} {o : Oper} {a : Act} {Q : Exit → Act → World → Prop} (hgd : o.guard = none) (d s : Operand) (dT sT : TypeId)
    (ho : o.op = .call { callee := .builtin .copy, args := #[d, s], argTypes := #[dT, sT] }) (elem e : TypeId) (sz : Nat) {B N cap g : Nat} {xs : List Value} (hu : P.underlying dT = some (.slice elem)) (hs : (P.info? elem).map (·.size) = some sz)
    (hd : a.eval d = .slice (some ⟨g, 0, none⟩) N cap) (hown : w.ownsRow B e sz (.slice (some ⟨g, 0, none⟩) N cap) N xs) (A : Option Addr) (m c : Nat) (cs : List Value) (hx : a.eval s = .slice A m c) (hm : m ≤ N) (hcl : cs.length = m * sz) (hr : Rd w A cs) (h1 : ∀ v ∈ cs, v.oneCell' = true) (hsz : 0 < sz)
    (h : ∀ w', w'.ownsRow B e sz (.slice (some ⟨g, 0, none⟩) N cap) N (cs ++ xs.drop (m * sz)) → BelS (fun k => k = g) w w' → wpList P ops Q rest (a.put o.dst (goInt m)) w') : wpList P ops Q (o :: rest) a w := by
  refine wpList_plain hgd fun K hK => ?_
  obtain ⟨w', hrun, h2, h3⟩ := run_copy_into (P := P) w dT sT o.type elem e sz hu hs hown A m c cs hm hcl hr h1 hsz
  unfold Oper.wp
  simp [execOp, ho, resolve, invoke, builtin, hd, hx, hrun, Result.andThen]
  exact hK _ _ (h w' h2 h3)
end
end Go.Proofs.Ytgnjhaomlbkgcaa

namespace Go.Proofs.Ytgnjhaomlbkgcaa
open Go Go.RowKit Go.Shelf
set_option linter.unusedVariables false
set_option linter.unusedSimpArgs false

/-- A case whose rows are new. -/
def FreshCs (w : World) (B : Nat) (v : Value) (c : Cs) : Prop :=
  ∃ A1 c1 A2 c2 xs, v = .agg #[.int .i64 c.ev, .slice A1 c.bs.length c1, .int .i64 c.wi, .slice A2 c.cl.length c2] ∧ w.ownsRow B 35 3 (.slice A1 c.bs.length c1) c.bs.length (bcells c.bs) ∧
    w.ownsRow B 37 2 (.slice A2 c.cl.length c2) c.cl.length xs ∧ ClW w B xs c.cl
theorem FreshCs.toR {w : World} {B : Nat} {v : Value} {c : Cs} (h : FreshCs w B v c) : CsR w v c := by
  obtain ⟨A1, c1, A2, c2, xs, rfl, h1, h2, h3⟩ := h
  exact ⟨A1, c1, A2, c2, rfl, Rd.of_own h1, xs, Rd.of_own h2, h3.toC⟩
def zeroCs : Value := .agg #[.int .i64 0, .slice none 0 0, .int .i64 0, .slice none 0 0]
def ToldPost (w : World) (c : Cs) (b : Bd) (e : Ending) (w' : World) : Prop :=
  ∃ r, e = .returned (.tuple #[r, .int .i64 (toldBC c b)]) ∧ Ext w w' ∧ (toldBC c b ≠ 0 → r = zeroCs) ∧ (toldBC c b = 0 → FreshCs w' w.heap.size r (c.add b))

theorem wpList_make_some {P : Program} (w : World) {ops : Array Oper} {rest : List Oper} {o : Oper} {a : Act} {Q : Exit → Act → World → Prop}
    (hg : o.guard = none) (l c : Operand) (t : TypeId) (hop : o.op = Op.makeSlice t l c)
    (base : Nat) (e : TypeId) (i : TypeInfo) (z : Value) (size : Nat) (h1 : P.underlying t = some (.slice e)) (h2 : P.info? e = some i) (h3 : i.zero = some z) (h4 : i.size = size)
    (kl kc : IntKind) (L C : Int) (n : Nat) (hl : a.eval l = .int kl L) (hc : a.eval c = .int kc C) (hL : L = (n : Int)) (hC : C = (n : Int)) (b2 : i.bytes * n ≤ 281474976710656) (b3 : n ≤ maxLen) (b4 : base ≤ w.heap.size)
    (hK : ∀ w' xs, w'.ownsRow base e size (.slice (some ⟨w.heap.size, 0, none⟩) n n) n xs → w.grownBy w' none → wpList P ops Q rest (a.put o.dst (.slice (some ⟨w.heap.size, 0, none⟩) n n)) w') :
    wpList P ops Q (o :: rest) a w :=
  wpList_make_full w hg l c t hop base e i z size h1 h2 h3 h4 kl kc L C n hl hc hL hC b2 b3 b4 fun w' h1 h2 => hK w' _ h1 h2
theorem manyOK_len {c : Cs} (h : manyOK c = true) : c.bs.length ≤ 20 ∧ c.cl.length ≤ 8 ∧ ∀ x ∈ c.cl, x.bs.length ≤ 4 := by
  unfold manyOK eachOK at h
  simp only [Bool.and_eq_true, List.all_eq_true, decide_eq_true_eq] at h
  exact ⟨h.1.1.1.2, h.1.2, fun x hx => h.2 x hx⟩
set_option maxRecDepth 100000 in
set_option maxHeartbeats 4000000 in
theorem toldb_any (v : Value) (c : Cs) (b : Bd) (w : World) (hc : CsR w v c) (hs : c.sized) :
    Calls Try.prog 50 #[v, b.val] w (ToldPost w c b) := by
  have hc' := hc
  obtain ⟨A1, c1, A2, c2, rfl, hB, hC⟩ := hc
  obtain ⟨f, t, m⟩ := b
  obtain ⟨T, hT⟩ : ∃ T, toldBC c ⟨f, t, m⟩ = T := ⟨_, rfl⟩
  have HT := hid hT
  unfold toldBC at hT
  have HT2 := hid hT
  clear hT
  show Calls _ _ #[_, .agg #[.int .i64 f, .int .i64 t, .int .i64 m]] w _
  go_enter Try.func50, Try.ntmps50
  go_wp2_with fail
  have x0 := Ext.alloc (Ext.alloc (Ext.alloc (Ext.refl w) (.cells #[.int .i64 c.ev, .slice A1 c.bs.length c1, .int .i64 c.wi, .slice A2 c.cl.length c2] 26)) (.cells #[.int .i64 f, .int .i64 t, .int .i64 m] 35)) (.cells #[.int .i64 0, .slice none 0 0, .int .i64 0, .slice none 0 0] 26)
  have hz0 : (((w.alloc (.cells #[.int .i64 c.ev, .slice A1 c.bs.length c1, .int .i64 c.wi, .slice A2 c.cl.length c2] 26)).alloc (.cells #[.int .i64 f, .int .i64 t, .int .i64 m] 35)).alloc (.cells #[.int .i64 0, .slice none 0 0, .int .i64 0, .slice none 0 0] 26)).heap.size = w.heap.size + 3 := by simp
  have GC : (((w.alloc (.cells #[.int .i64 c.ev, .slice A1 c.bs.length c1, .int .i64 c.wi, .slice A2 c.cl.length c2] 26)).alloc (.cells #[.int .i64 f, .int .i64 t, .int .i64 m] 35)).alloc (.cells #[.int .i64 0, .slice none 0 0, .int .i64 0, .slice none 0 0] 26)).heap[w.heap.size]? = some (.cells #[.int .i64 c.ev, .slice A1 c.bs.length c1, .int .i64 c.wi, .slice A2 c.cl.length c2] 26 (0, 0)) := (Below.block (Ext.alloc (Ext.alloc (Ext.refl (w.alloc (.cells #[.int .i64 c.ev, .slice A1 c.bs.length c1, .int .i64 c.wi, .slice A2 c.cl.length c2] 26))) (.cells #[.int .i64 f, .int .i64 t, .int .i64 m] 35)) (.cells #[.int .i64 0, .slice none 0 0, .int .i64 0, .slice none 0 0] 26)) w.heap.size (by simp)).trans (heap_alloc_new w _)
  have GB : (((w.alloc (.cells #[.int .i64 c.ev, .slice A1 c.bs.length c1, .int .i64 c.wi, .slice A2 c.cl.length c2] 26)).alloc (.cells #[.int .i64 f, .int .i64 t, .int .i64 m] 35)).alloc (.cells #[.int .i64 0, .slice none 0 0, .int .i64 0, .slice none 0 0] 26)).heap[w.heap.size + 1]? = some (.cells #[.int .i64 f, .int .i64 t, .int .i64 m] 35 (0, 0)) := by
    have h := heap_alloc_new (w.alloc (.cells #[.int .i64 c.ev, .slice A1 c.bs.length c1, .int .i64 c.wi, .slice A2 c.cl.length c2] 26)) (.cells #[.int .i64 f, .int .i64 t, .int .i64 m] 35)
    rw [show (w.alloc (.cells #[.int .i64 c.ev, .slice A1 c.bs.length c1, .int .i64 c.wi, .slice A2 c.cl.length c2] 26)).heap.size = w.heap.size + 1 by simp] at h
    exact (Below.block (Ext.alloc (Ext.refl ((w.alloc (.cells #[.int .i64 c.ev, .slice A1 c.bs.length c1, .int .i64 c.wi, .slice A2 c.cl.length c2] 26)).alloc (.cells #[.int .i64 f, .int .i64 t, .int .i64 m] 35))) (.cells #[.int .i64 0, .slice none 0 0, .int .i64 0, .slice none 0 0] 26)) (w.heap.size + 1) (by simp)).trans h
  have GZ : (((w.alloc (.cells #[.int .i64 c.ev, .slice A1 c.bs.length c1, .int .i64 c.wi, .slice A2 c.cl.length c2] 26)).alloc (.cells #[.int .i64 f, .int .i64 t, .int .i64 m] 35)).alloc (.cells #[.int .i64 0, .slice none 0 0, .int .i64 0, .slice none 0 0] 26)).heap[w.heap.size + 1 + 1]? = some (.cells #[.int .i64 0, .slice none 0 0, .int .i64 0, .slice none 0 0] 26 (0, 0)) := by
    have h := heap_alloc_new ((w.alloc (.cells #[.int .i64 c.ev, .slice A1 c.bs.length c1, .int .i64 c.wi, .slice A2 c.cl.length c2] 26)).alloc (.cells #[.int .i64 f, .int .i64 t, .int .i64 m] 35)) (.cells #[.int .i64 0, .slice none 0 0, .int .i64 0, .slice none 0 0] 26)
    rwa [show ((w.alloc (.cells #[.int .i64 c.ev, .slice A1 c.bs.length c1, .int .i64 c.wi, .slice A2 c.cl.length c2] 26)).alloc (.cells #[.int .i64 f, .int .i64 t, .int .i64 m] 35)).heap.size = w.heap.size + 1 + 1 by simp] at h
  generalize hW0 : (((w.alloc (.cells #[.int .i64 c.ev, .slice A1 c.bs.length c1, .int .i64 c.wi, .slice A2 c.cl.length c2] 26)).alloc (.cells #[.int .i64 f, .int .i64 t, .int .i64 m] 35)).alloc (.cells #[.int .i64 0, .slice none 0 0, .int .i64 0, .slice none 0 0] 26)) = W0 at x0 hz0 GC GB GZ ⊢
  clear hW0
  refine (check_any _ c _ (hc'.ext x0) hs).mono ?_
  rintro e w1 ⟨rfl, hx1⟩
  have GC1 := (Below.block hx1 _ (by omega)).trans GC
  have GB1 := (Below.block hx1 _ (by omega)).trans GB
  have GZ1 := (Below.block hx1 _ (by omega)).trans GZ
  have X1 := x0.trans hx1
  have hz1 := hx1.size
  clear GC GB GZ x0 hx1
  obtain ⟨K, hK⟩ : ∃ K, checkC c = K := ⟨_, rfl⟩
  have HK := hid hK
  rw [hK]
  rw [hK] at HT2
  clear hK
  by_cases k0 : K ≠ 0
  · have HTK : Hid (T = K) := by
      have h := HT2.out
      rw [if_pos k0] at h
      exact h.symm
    have HTN : Hid (T ≠ 0) := by unfold Hid; rw [HTK.out]; exact k0
    have z0 := block_cell (i := 0) GZ1
    have z1 := block_cell (i := 1) GZ1
    have z2 := block_cell (i := 2) GZ1
    have z3 := block_cell (i := 3) GZ1
    have f0 := block_free (i := 0) GZ1
    have f1 := block_free (i := 1) GZ1
    have f2 := block_free (i := 2) GZ1
    have f3 := block_free (i := 3) GZ1
    simp only [List.getElem?_toArray, List.getElem?_cons_zero, List.getElem?_cons_succ] at z0 z1 z2 z3
    clear GC1 GB1 GZ1
    go_wp2
    refine bodyPost_ret (v := .tuple #[zeroCs, .int .i64 T]) ?_ rfl ⟨zeroCs, by rw [HT.out], (((X1.setCell (by simp; omega) _).setCell (by simp; omega) _).setCell (by simp; omega) _).setCell (by simp; omega) _, fun _ => rfl, fun h => absurd (HT.out.symm.trans h) HTN.out⟩
    rw [results_cell_tmp rfl]
    simp only [HTK.out]
    go_simp
    rfl
  have h2 := HT2.out
  rw [if_neg k0] at h2
  clear HT2
  have HT2 := hid h2
  have e0 : K = 0 := by simpa using k0
  have hck := HK.out.trans e0
  obtain ⟨ev1, ev8⟩ := checkC_ev hck
  subst e0
  clear h2 k0
  have c0 := block_cell (i := 0) GC1
  have c1' := block_cell (i := 1) GC1
  have c2' := block_cell (i := 2) GC1
  have c3 := block_cell (i := 3) GC1
  have b0 := block_cell (i := 0) GB1
  have b1 := block_cell (i := 1) GB1
  have b2 := block_cell (i := 2) GB1
  simp only [List.getElem?_toArray, List.getElem?_cons_zero, List.getElem?_cons_succ] at c0 c1' c2' c3 b0 b1 b2
  go_wp2_with fail
  have xo := Ext.alloc (Ext.refl w1) (.cells #[.int .i64 f, .int .i64 t, .int .i64 m] 35)
  have n0 := heap_alloc_new w1 (.cells #[.int .i64 f, .int .i64 t, .int .i64 m] 35)
  have hBo : Bounds (w1.alloc (.cells #[.int .i64 f, .int .i64 t, .int .i64 m] 35)) (some ⟨w1.heap.size, 0, none⟩) [⟨f, t, m⟩] := rd_block n0
  refine (bounds_any _ c _ _ [⟨f, t, m⟩] _ (hc'.ext (X1.trans xo)) ev1 ev8 hBo (by simp)).mono ?_
  rintro e w2 ⟨rfl, hx2⟩
  have x12 := xo.trans hx2
  have GC2 := (Below.block x12 _ (by omega)).trans GC1
  have GB2 := (Below.block x12 _ (by omega)).trans GB1
  have GZ2 := (Below.block x12 _ (by omega)).trans GZ1
  have X2 := X1.trans x12
  have hz2 := x12.size
  clear GC1 GB1 GZ1 X1 x12 hx2 hBo n0 xo c0 c1' c2' c3 b0 b1 b2
  obtain ⟨K, hK⟩ : ∃ K, bdsC c.ev [⟨f, t, m⟩] = K := ⟨_, rfl⟩
  have HK2 := hid hK
  rw [hK]
  rw [hK] at HT2
  clear hK
  by_cases k0 : K ≠ 0
  · have HTK : Hid (T = K) := by
      have h := HT2.out
      rw [if_pos k0] at h
      exact h.symm
    have HTN : Hid (T ≠ 0) := by unfold Hid; rw [HTK.out]; exact k0
    have z0 := block_cell (i := 0) GZ2
    have z1 := block_cell (i := 1) GZ2
    have z2 := block_cell (i := 2) GZ2
    have z3 := block_cell (i := 3) GZ2
    have f0 := block_free (i := 0) GZ2
    have f1 := block_free (i := 1) GZ2
    have f2 := block_free (i := 2) GZ2
    have f3 := block_free (i := 3) GZ2
    simp only [List.getElem?_toArray, List.getElem?_cons_zero, List.getElem?_cons_succ] at z0 z1 z2 z3
    clear GC2 GB2 GZ2
    go_wp2
    refine bodyPost_ret (v := .tuple #[zeroCs, .int .i64 T]) ?_ rfl ⟨zeroCs, by rw [HT.out], (((X2.setCell (by simp; omega) _).setCell (by simp; omega) _).setCell (by simp; omega) _).setCell (by simp; omega) _, fun _ => rfl, fun h => absurd (HT.out.symm.trans h) HTN.out⟩
    rw [results_cell_tmp rfl]
    simp only [HTK.out]
    go_simp
    rfl
  have h2 := HT2.out
  rw [if_neg k0] at h2
  clear HT2
  have HT2 := hid h2
  have e0 : K = 0 := by simpa using k0
  subst e0
  clear h2 k0
  have b0 := block_cell (i := 0) GB2
  have b1 := block_cell (i := 1) GB2
  have b2 := block_cell (i := 2) GB2
  simp only [List.getElem?_toArray, List.getElem?_cons_zero, List.getElem?_cons_succ] at b0 b1 b2
  by_cases k0 : f = t
  · have HTK : Hid (T = 5) := by
      have h := HT2.out
      rw [if_pos k0] at h
      exact h.symm
    have HTN : Hid (T ≠ 0) := by unfold Hid; rw [HTK.out]; decide
    have z0 := block_cell (i := 0) GZ2
    have z1 := block_cell (i := 1) GZ2
    have z2 := block_cell (i := 2) GZ2
    have z3 := block_cell (i := 3) GZ2
    have f0 := block_free (i := 0) GZ2
    have f1 := block_free (i := 1) GZ2
    have f2 := block_free (i := 2) GZ2
    have f3 := block_free (i := 3) GZ2
    simp only [List.getElem?_toArray, List.getElem?_cons_zero, List.getElem?_cons_succ] at z0 z1 z2 z3
    clear GC2 GB2 GZ2
    go_wp2
    refine bodyPost_ret (v := .tuple #[zeroCs, .int .i64 T]) ?_ rfl ⟨zeroCs, by rw [HT.out], (((X2.setCell (by simp; omega) _).setCell (by simp; omega) _).setCell (by simp; omega) _).setCell (by simp; omega) _, fun _ => rfl, fun h => absurd (HT.out.symm.trans h) HTN.out⟩
    rw [results_cell_tmp rfl]
    simp only [HTK.out]
    go_simp
    rfl
  have h2 := HT2.out
  rw [if_neg k0] at h2
  clear HT2
  have HT2 := hid h2
  clear h2
  have c0 := block_cell (i := 0) GC2
  have c1' := block_cell (i := 1) GC2
  have c2' := block_cell (i := 2) GC2
  have c3 := block_cell (i := 3) GC2
  simp only [List.getElem?_toArray, List.getElem?_cons_zero, List.getElem?_cons_succ] at c0 c1' c2' c3
  by_cases k1 : c.bs.length = 20
  · have HTK : Hid (T = 2) := by
      have h := HT2.out
      rw [if_pos k1] at h
      exact h.symm
    have HTN : Hid (T ≠ 0) := by unfold Hid; rw [HTK.out]; decide
    have k1' : (c.bs.length : Int) = 20 := by omega
    have z0 := block_cell (i := 0) GZ2
    have z1 := block_cell (i := 1) GZ2
    have z2 := block_cell (i := 2) GZ2
    have z3 := block_cell (i := 3) GZ2
    have f0 := block_free (i := 0) GZ2
    have f1 := block_free (i := 1) GZ2
    have f2 := block_free (i := 2) GZ2
    have f3 := block_free (i := 3) GZ2
    simp only [List.getElem?_toArray, List.getElem?_cons_zero, List.getElem?_cons_succ] at z0 z1 z2 z3
    clear GC2 GB2 GZ2
    go_wp2
    refine bodyPost_ret (v := .tuple #[zeroCs, .int .i64 T]) ?_ rfl ⟨zeroCs, by rw [HT.out], (((X2.setCell (by simp; omega) _).setCell (by simp; omega) _).setCell (by simp; omega) _).setCell (by simp; omega) _, fun _ => rfl, fun h => absurd (HT.out.symm.trans h) HTN.out⟩
    rw [results_cell_tmp rfl]
    simp only [HTK.out]
    go_simp
    rfl
  have h2 := HT2.out
  rw [if_neg k1] at h2
  have HTK : Hid (T = 0) := h2.symm
  clear h2 HT2
  have k1' : ¬ (c.bs.length : Int) = 20 := by omega
  obtain ⟨l1, l2, l3⟩ := manyOK_len (checkC_ok hck).1
  obtain ⟨_, ⟨i, z, hi, hz, hsize, hby, hzs⟩, _, _⟩ := elem_bound
  have hb2 : i.bytes * (c.bs.length + 1) ≤ 281474976710656 := by rw [hby]; omega
  have hm1 : c.bs.length + 1 ≤ maxLen := by simp only [maxLen]; omega
  have hLn : ((c.bs.length : Int) + 1) = ((c.bs.length + 1 : Nat) : Int) := by omega
  have H2 := hid hm1
  have H3 := hid hb2
  have H4 := hid hi
  have H5 := hid hz
  have H6 := hid hsize
  have H7 := hid hLn
  have HL3 := hid l3
  have HKQ := hid k1
  have hx2s := X2.size
  clear hb2 hm1 hi hz hsize hby hzs hLn l3
  go_wp2_with (at_make; refine wpList_make_some _ rfl _ _ 23 rfl w.heap.size 35 i z 3 Try.underlying23 H4.out H5.out H6.out .i64 .i64 _ _ (c.bs.length + 1) rfl rfl H7.out H7.out H3.out H2.out hx2s ?_)
  intro w3 xs hown3 hgr3
  have x3 : Ext w2 w3 := Ext.grown (Ext.refl w2) hgr3 (fun k e => by cases e)
  have GC3 := (Below.block x3 _ (by omega)).trans GC2
  have GB3 := (Below.block x3 _ (by omega)).trans GB2
  have GZ3 := (Below.block x3 _ (by omega)).trans GZ2
  have X3 := X2.trans x3
  have hz3 := x3.size
  have O3 := hid hown3
  obtain ⟨g, hg⟩ : ∃ g, w2.heap.size = g := ⟨_, rfl⟩
  rw [hg] at O3 ⊢
  have HG := hid hg
  clear GC2 GB2 GZ2 X2 x3 hg hgr3 hown3 c0 c1' c2' c3 b0 b1 b2
  have c0 := block_cell (i := 0) GC3
  have c1' := block_cell (i := 1) GC3
  have c2' := block_cell (i := 2) GC3
  have c3 := block_cell (i := 3) GC3
  simp only [List.getElem?_toArray, List.getElem?_cons_zero, List.getElem?_cons_succ] at c0 c1' c2' c3
  have hg3 := (O3.out.lt g rfl).2
  have hgn : w.heap.size + 3 ≤ g := by have := HG.out; omega
  have hsz3 : (Try.prog.info? 35).map (·.size) = some 3 := by rw [H4.out]; simp [H6.out]
  have HS3 := hid hsz3
  have hBa := hB.ext X3
  have hm1 : c.bs.length ≤ c.bs.length + 1 := Nat.le_succ _
  have HM1 := hid hm1
  clear hsz3 hm1
  go_wp2_with (refine wpList_copy_into _ rfl _ _ 23 23 rfl 35 35 3 Try.underlying23 HS3.out rfl O3.out A1 c.bs.length c1 (bcells c.bs) rfl HM1.out (bcells_len _) hBa (bcells_one _) (by decide) ?_)
  intro w4 hown4 hb4
  have GC4 := hb4.heap GC3 (by show ¬ w.heap.size = g; omega)
  have GB4 := hb4.heap GB3 (by show ¬ w.heap.size + 1 = g; omega)
  have GZ4 := hb4.heap GZ3 (by show ¬ w.heap.size + 1 + 1 = g; omega)
  have X4 := Ext.then_bel X3 (show w.heap.size ≤ g by omega) (hb4.bel fun _ _ h => h)
  have hg4 := hb4.size
  have hdl : (xs.drop (c.bs.length * 3)).length = 3 := by
    have := O3.out.1
    rw [List.length_drop]; omega
  obtain ⟨u0, u1, u2, hu⟩ : ∃ u0 u1 u2, xs.drop (c.bs.length * 3) = [u0, u1, u2] := by
    match hq : xs.drop (c.bs.length * 3), hdl with
    | [u0, u1, u2], _ => exact ⟨u0, u1, u2, rfl⟩
  rw [hu] at hown4
  have O4 := hid hown4
  have hf := hown4.frozenAt
  have fg0 := hf (c.bs.length * 3)
  have fg1 := hf (c.bs.length * 3 + 1)
  have fg2 := hf (c.bs.length * 3 + 2)
  have g0 := hown4.cellAt (c.bs.length * 3) (by omega)
  have g1 := hown4.cellAt (c.bs.length * 3 + 1) (by omega)
  have g2 := hown4.cellAt (c.bs.length * 3 + 2) (by omega)
  rw [List.getElem?_append_right (by rw [bcells_len]; omega), bcells_len, Nat.sub_self] at g0
  rw [List.getElem?_append_right (by rw [bcells_len]; omega), bcells_len, show c.bs.length * 3 + 1 - c.bs.length * 3 = 1 by omega] at g1
  rw [List.getElem?_append_right (by rw [bcells_len]; omega), bcells_len, show c.bs.length * 3 + 2 - c.bs.length * 3 = 2 by omega] at g2
  simp only [List.getElem?_cons_zero, List.getElem?_cons_succ] at g0 g1 g2
  clear GC3 GB3 GZ3 X3 hb4 hown4 hf c0 c1' c2' c3 hBa hu hdl O3
  have c0 := block_cell (i := 0) GC4
  have c1' := block_cell (i := 1) GC4
  have c2' := block_cell (i := 2) GC4
  have c3 := block_cell (i := 3) GC4
  have b0 := block_cell (i := 0) GB4
  have b1 := block_cell (i := 1) GB4
  have b2 := block_cell (i := 2) GB4
  have fc1 := block_free (i := 1) GC4
  have fc3 := block_free (i := 3) GC4
  simp only [List.getElem?_toArray, List.getElem?_cons_zero, List.getElem?_cons_succ] at c0 c1' c2' c3 b0 b1 b2
  have ne1 : w.heap.size ≠ g := by omega
  have ne2 : w.heap.size + 1 ≠ g := by omega
  have ne3 : w.heap.size + 1 + 1 ≠ g := by omega
  go_wp2_with fail
  have OS : (((w4.setCell ⟨g, c.bs.length * 3, none⟩ (.int .i64 f)).setCell ⟨g, c.bs.length * 3 + 1, none⟩ (.int .i64 t)).setCell ⟨g, c.bs.length * 3 + 2, none⟩ (.int .i64 m)).ownsRow w.heap.size 35 3 (.slice (some ⟨g, 0, none⟩) (c.bs.length + 1) (c.bs.length + 1)) (c.bs.length + 1) (bcells (c.bs ++ [⟨f, t, m⟩])) := by
    have h1 := (O4.out.stored (c.bs.length * 3) (.int .i64 f)).1
    have h2 := (h1.stored (c.bs.length * 3 + 1) (.int .i64 t)).1
    have h3 := (h2.stored (c.bs.length * 3 + 2) (.int .i64 m)).1
    have hbl := bcells_len c.bs
    rw [List.set_append_right _ _ (by omega), hbl, Nat.sub_self, List.set_append_right _ _ (by omega), hbl, show c.bs.length * 3 + 1 - c.bs.length * 3 = 1 by omega, List.set_append_right _ _ (by omega), hbl, show c.bs.length * 3 + 2 - c.bs.length * 3 = 2 by omega] at h3
    rw [bcells_app]
    exact h3
  have xb5 : BelS (fun i => i = g) w4 (((w4.setCell ⟨g, c.bs.length * 3, none⟩ (.int .i64 f)).setCell ⟨g, c.bs.length * 3 + 1, none⟩ (.int .i64 t)).setCell ⟨g, c.bs.length * 3 + 2, none⟩ (.int .i64 m)) := (((BelS.refl _ w4).setCell (S := fun i => i = g) ⟨g, c.bs.length * 3, none⟩ _ rfl).setCell ⟨g, c.bs.length * 3 + 1, none⟩ _ rfl).setCell ⟨g, c.bs.length * 3 + 2, none⟩ _ rfl
  have xs5 : BelS (fun i => i = w.heap.size) (((w4.setCell ⟨g, c.bs.length * 3, none⟩ (.int .i64 f)).setCell ⟨g, c.bs.length * 3 + 1, none⟩ (.int .i64 t)).setCell ⟨g, c.bs.length * 3 + 2, none⟩ (.int .i64 m)) ((((w4.setCell ⟨g, c.bs.length * 3, none⟩ (.int .i64 f)).setCell ⟨g, c.bs.length * 3 + 1, none⟩ (.int .i64 t)).setCell ⟨g, c.bs.length * 3 + 2, none⟩ (.int .i64 m)).setCell ⟨w.heap.size, 1, none⟩ (.slice (some ⟨g, 0, none⟩) (c.bs.length + 1) (c.bs.length + 1))) := (BelS.refl _ _).setCell (S := fun i => i = w.heap.size) ⟨w.heap.size, 1, none⟩ _ rfl
  have GC5 : ((((w4.setCell ⟨g, c.bs.length * 3, none⟩ (.int .i64 f)).setCell ⟨g, c.bs.length * 3 + 1, none⟩ (.int .i64 t)).setCell ⟨g, c.bs.length * 3 + 2, none⟩ (.int .i64 m)).setCell ⟨w.heap.size, 1, none⟩ (.slice (some ⟨g, 0, none⟩) (c.bs.length + 1) (c.bs.length + 1))).heap[w.heap.size]? = some (.cells #[.int .i64 c.ev, (.slice (some ⟨g, 0, none⟩) (c.bs.length + 1) (c.bs.length + 1)), .int .i64 c.wi, .slice A2 c.cl.length c2] 26 (0, 0)) := by
    have := heap_set (xb5.heap GC4 (by show ¬ w.heap.size = g; omega)) (i := 1) (.slice (some ⟨g, 0, none⟩) (c.bs.length + 1) (c.bs.length + 1))
    simpa using this
  have GZ5 := xs5.heap (xb5.heap GZ4 (by show ¬ w.heap.size + 1 + 1 = g; omega)) (by show ¬ w.heap.size + 1 + 1 = w.heap.size; omega)
  have O5 := hid (xs5.own OS (fun k e h => by have h2 : g = k := Option.some.inj e; omega))
  have X5 : Ext w ((((w4.setCell ⟨g, c.bs.length * 3, none⟩ (.int .i64 f)).setCell ⟨g, c.bs.length * 3 + 1, none⟩ (.int .i64 t)).setCell ⟨g, c.bs.length * 3 + 2, none⟩ (.int .i64 m)).setCell ⟨w.heap.size, 1, none⟩ (.slice (some ⟨g, 0, none⟩) (c.bs.length + 1) (c.bs.length + 1))) := (((X4.setCell (by show w.heap.size ≤ g; omega) _).setCell (by show w.heap.size ≤ g; omega) _).setCell (by show w.heap.size ≤ g; omega) _).setCell (Nat.le_refl _) _
  have z5 := xb5.size
  have z6 := xs5.size
  generalize hW5 : ((((w4.setCell ⟨g, c.bs.length * 3, none⟩ (.int .i64 f)).setCell ⟨g, c.bs.length * 3 + 1, none⟩ (.int .i64 t)).setCell ⟨g, c.bs.length * 3 + 2, none⟩ (.int .i64 m)).setCell ⟨w.heap.size, 1, none⟩ (.slice (some ⟨g, 0, none⟩) (c.bs.length + 1) (c.bs.length + 1))) = W5 at xs5 GC5 GZ5 O5 X5 z6 ⊢
  clear hW5 xs5 xb5 OS O4 GC4 GB4 GZ4 X4 fg0 fg1 fg2 g0 g1 g2 fc1 fc3 c0 c1' c2' c3 b0 b1 b2
  have hz5 : w.heap.size + 3 ≤ W5.heap.size := by omega
  have hg5 : g < W5.heap.size := by omega
  clear z5 z6 hg4 hg3
  obtain ⟨xs0, hR0, hC0⟩ := hC.ext X5
  refine (twin_any A2 c2 c.cl W5 xs0 hR0 hC0 (by omega) (fun x hx => by have := HL3.out x hx; omega)).mono ?_
  rintro e w6 ⟨A6, c6, ys, rfl, o6, hcl, _, hx6⟩
  have GC6 := (Below.block hx6 _ (by omega)).trans GC5
  have GZ6 := (Below.block hx6 _ (by omega)).trans GZ5
  have X6 := X5.trans hx6
  have O6 := hid (own_below O5.out hx6)
  have OC := hid o6
  have HCL := hid hcl
  have hz6 := hx6.size
  clear GC5 GZ5 X5 o6 hcl O5 hR0 hC0 hx6
  have c0 := block_cell (i := 0) GC6
  have c1' := block_cell (i := 1) GC6
  have c2' := block_cell (i := 2) GC6
  have c3 := block_cell (i := 3) GC6
  have fc3 := block_free (i := 3) GC6
  simp only [List.getElem?_toArray, List.getElem?_cons_zero, List.getElem?_cons_succ] at c0 c1' c2' c3
  have z0 := block_cell (i := 0) GZ6
  have z1 := block_cell (i := 1) GZ6
  have z2 := block_cell (i := 2) GZ6
  have z3 := block_cell (i := 3) GZ6
  have f0 := block_free (i := 0) GZ6
  have f1 := block_free (i := 1) GZ6
  have f2 := block_free (i := 2) GZ6
  have f3 := block_free (i := 3) GZ6
  simp only [List.getElem?_toArray, List.getElem?_cons_zero, List.getElem?_cons_succ] at z0 z1 z2 z3
  have nz : w.heap.size + 1 + 1 ≠ w.heap.size := by omega
  go_wp2
  have xb7 : BelS (fun i => i = w.heap.size ∨ i = w.heap.size + 1 + 1) w6 (((((w6.setCell ⟨w.heap.size, 3, none⟩ (.slice A6 c.cl.length c6)).setCell ⟨w.heap.size + 1 + 1, 0, none⟩ (.int .i64 c.ev)).setCell ⟨w.heap.size + 1 + 1, 1, none⟩ (.slice (some ⟨g, 0, none⟩) (c.bs.length + 1) (c.bs.length + 1))).setCell ⟨w.heap.size + 1 + 1, 2, none⟩ (.int .i64 c.wi)).setCell ⟨w.heap.size + 1 + 1, 3, none⟩ (.slice A6 c.cl.length c6)) :=
    (((((BelS.refl _ w6).setCell (S := fun i => i = w.heap.size ∨ i = w.heap.size + 1 + 1) ⟨w.heap.size, 3, none⟩ _ (.inl rfl)).setCell ⟨w.heap.size + 1 + 1, 0, none⟩ _ (.inr rfl)).setCell ⟨w.heap.size + 1 + 1, 1, none⟩ _ (.inr rfl)).setCell ⟨w.heap.size + 1 + 1, 2, none⟩ _ (.inr rfl)).setCell ⟨w.heap.size + 1 + 1, 3, none⟩ _ (.inr rfl)
  have X7 : Ext w (((((w6.setCell ⟨w.heap.size, 3, none⟩ (.slice A6 c.cl.length c6)).setCell ⟨w.heap.size + 1 + 1, 0, none⟩ (.int .i64 c.ev)).setCell ⟨w.heap.size + 1 + 1, 1, none⟩ (.slice (some ⟨g, 0, none⟩) (c.bs.length + 1) (c.bs.length + 1))).setCell ⟨w.heap.size + 1 + 1, 2, none⟩ (.int .i64 c.wi)).setCell ⟨w.heap.size + 1 + 1, 3, none⟩ (.slice A6 c.cl.length c6)) := ((((X6.setCell (Nat.le_refl _) _).setCell (by simp; omega) _).setCell (by simp; omega) _).setCell (by simp; omega) _).setCell (by simp; omega) _
  have O7 := xb7.own O6.out (fun k e h => by have h2 : g = k := Option.some.inj e; omega)
  have OC7 := own_base (base' := w.heap.size) (xb7.own OC.out (fun k e h => by have := (OC.out.lt k e).1; omega)) (by omega)
  have HC7 := (HCL.out.keep (fun v n zs ho => xb7.own ho (fun k e h => by have := (ho.lt k e).1; omega))).base (B' := w.heap.size) (by omega)
  refine bodyPost_ret (v := .tuple #[.agg #[.int .i64 c.ev, (.slice (some ⟨g, 0, none⟩) (c.bs.length + 1) (c.bs.length + 1)), .int .i64 c.wi, .slice A6 c.cl.length c6], .int .i64 T]) ?_ rfl ⟨.agg #[.int .i64 c.ev, (.slice (some ⟨g, 0, none⟩) (c.bs.length + 1) (c.bs.length + 1)), .int .i64 c.wi, .slice A6 c.cl.length c6], by rw [HT.out], X7, fun h => absurd (HT.out.symm ▸ HTK.out) h, fun _ => ⟨some ⟨g, 0, none⟩, c.bs.length + 1, A6, c6, ys, ?_, ?_, OC7, HC7⟩⟩
  · rw [results_cell_tmp rfl]
    simp only [HTK.out]
    go_simp
  · unfold Cs.add; simp
  · unfold Cs.add; simpa using O7
end Go.Proofs.Ytgnjhaomlbkgcaa

namespace Go.Proofs.Ytgnjhaomlbkgcaa
open Go Go.RowKit
set_option linter.unusedVariables false
set_option linter.unusedSimpArgs false

theorem colMin_le (g : Mat) (x : Nat) : ∀ a, colMin g x a ≤ 0 ∧ ∀ i, i < a → colMin g x a ≤ g i x := by
  intro a
  induction a with
  | zero => exact ⟨by simp [colMin], fun i h => by omega⟩
  | succ a ih =>
    obtain ⟨h1, h2⟩ := ih
    rw [colMin_succ]
    refine ⟨by omega, fun i hi => ?_⟩
    by_cases e : i = a
    · subst e; omega
    · have := h2 i (by omega); omega
theorem colMin_is (g : Mat) (x : Nat) : ∀ a, colMin g x a = 0 ∨ ∃ i, i < a ∧ colMin g x a = g i x := by
  intro a
  induction a with
  | zero => left; simp [colMin]
  | succ a ih =>
    rw [colMin_succ]
    by_cases h : colMin g x a ≤ g a x
    · rw [Int.min_eq_left h]
      rcases ih with h1 | ⟨i, hi, h1⟩
      · exact .inl h1
      · exact .inr ⟨i, by omega, h1⟩
    · rw [Int.min_eq_right (by omega)]
      exact .inr ⟨a, by omega, rfl⟩
theorem truthL_get (c : Cs) (k : Nat) (hk : k < c.ev.toNat) : (truthL c)[k]? = some (colMin (gapsM allT c) k c.ev.toNat - colMin (gapsM allT c) 0 c.ev.toNat) := by
  unfold truthL
  rw [List.getElem?_map, List.getElem?_range hk]; rfl
theorem truthL_len (c : Cs) : (truthL c).length = c.ev.toNat := by simp [truthL]
theorem colMin_ge {c : Cs} (h0 : checkC c = 0) {x : Nat} (hx : x < 8) : -416000 ≤ colMin (gapsM allT c) x c.ev.toNat := by
  have hev := checkC_ev h0
  rcases colMin_is (gapsM allT c) x c.ev.toNat with h | ⟨i, hi, h⟩
  · omega
  · have := (gapsM_low (tf := allT) h0 i x (by omega) hx).1
    omega
theorem truth_ok {c : Cs} (h : toldC c = 0) : (truthL c)[0]? = some 0 ∧ (∀ x ∈ truthL c, -416000 ≤ x ∧ x ≤ 416000) ∧ TruthOf c.all (fun k => (truthL c).getD k 0) := by
  have h0 := toldC_check h
  have hev := checkC_ev h0
  have hcl : clashM (gapsM allT c) = false := by
    unfold toldC at h
    rw [if_pos h0] at h
    cases hq : clashM (gapsM allT c) with
    | false => rfl
    | true => rw [hq, if_pos rfl] at h; cases h
  have hf := fine_of h0 hcl
  refine ⟨by rw [truthL_get c 0 (by omega)]; simp, fun x hx => ?_, fun b hb => ?_⟩
  · unfold truthL at hx
    obtain ⟨k, hk, rfl⟩ := List.mem_map.1 hx
    rw [List.mem_range] at hk
    have h1 := colMin_ge h0 (x := k) (by omega)
    have h2 := colMin_ge h0 (x := 0) (by omega)
    have h3 := (colMin_le (gapsM allT c) k c.ev.toNat).1
    have h4 := (colMin_le (gapsM allT c) 0 c.ev.toNat).1
    omega
  · obtain ⟨h1, h2, h3, h4, h5⟩ := checkC_ok h0
    obtain ⟨⟨f0, f1⟩, t0, t1⟩ := evOK_get h3 hb
    have hfl : b.f.toNat < c.ev.toNat := by omega
    have htl : b.t.toNat < c.ev.toNat := by omega
    show (truthL c).getD _ 0 ≤ (truthL c).getD _ 0 + b.m
    rw [List.getD_eq_getElem?_getD, List.getD_eq_getElem?_getD, truthL_get c _ hfl, truthL_get c _ htl]
    simp only [Option.getD_some]
    have hb' : b ∈ belL allT c := by rw [belL_all]; exact hb
    have key : ∃ i, i < c.ev.toNat ∧ gapsM allT c i b.f.toNat ≠ far ∧ gapsM allT c i b.f.toNat = colMin (gapsM allT c) b.f.toNat c.ev.toNat := by
      have k1 := colMin_le (gapsM allT c) b.f.toNat c.ev.toNat
      rcases colMin_is (gapsM allT c) b.f.toNat c.ev.toNat with h | ⟨i, hi, h⟩
      · have k2 := k1.2 b.f.toNat hfl
        have k3 := gap_le h0 hf (a := b.f.toNat) (b := b.f.toNat) (by omega) (by omega) (Row.nil _ _)
        simp only [sumW] at k3
        exact ⟨b.f.toNat, hfl, by unfold far; omega, by omega⟩
      · exact ⟨i, hi, by unfold far; omega, h.symm⟩
    obtain ⟨i, hi, hn, he⟩ := key
    obtain ⟨l, hl, hs⟩ := gap_row h0 (a := i) (b := b.f.toNat) (by omega) (by omega) hn
    have k4 := gap_le h0 hf (a := i) (b := b.t.toNat) (by omega) (by omega) (hl.snoc hb')
    rw [sumW_app] at k4
    simp only [sumW] at k4
    have k5 := (colMin_le (gapsM allT c) b.t.toNat c.ev.toNat).2 i hi
    omega
end Go.Proofs.Ytgnjhaomlbkgcaa

namespace Go.Proofs.Ytgnjhaomlbkgcaa
open Go Go.RowKit
set_option linter.unusedVariables false
set_option linter.unusedSimpArgs false

theorem MadeOK.sized1 {evm bm cm : Nat} {lo : Int} {c : Cs} {real : List Int} (h : MadeOK evm bm cm lo c real) (hb : bm ≤ 20) (hc : cm ≤ 8) : c.sized :=
  ⟨by have := h.bsl; omega, by have := h.cll; omega, fun x hx => by have := (h.cl x hx).2.1; omega⟩
theorem bdIn_of {c : Cs} (h0 : checkC c = 0) {n : Nat} (hn : (n : Int) = c.ev) : ∀ b ∈ c.all, bdIn n b := fun b hb => by
  have h1 := evOK_get (checkC_ok h0).2.2.1 hb
  have h2 := limOK_get (checkC_ok h0).2.1 hb
  exact ⟨by omega, by omega, by omega, by omega⟩
end Go.Proofs.Ytgnjhaomlbkgcaa

namespace Go.Proofs.Ytgnjhaomlbkgcaa
open Go Go.RowKit Go.Shelf
set_option linter.unusedVariables false
set_option linter.unusedSimpArgs false

set_option maxRecDepth 100000 in
set_option maxHeartbeats 2000000 in
theorem sum_any (A : Option Addr) (k0 : Nat) (L : List Bd) (A2 : Option Addr) (k2 : Nat) (row : List Int) (a b e s : Int) (w : World) (hA : Bounds w A L) (hR : Ints w A2 row) (hl : L.length ≤ 1000000) (hr : row.length ≤ 1000000) (hm : ∀ x ∈ L, -2000 ≤ x.m ∧ x.m ≤ 2000)
    (hi : ∀ i ∈ row, 0 ≤ i ∧ i < (L.length : Int)) (hs : alongC L a 0 row = some (e, s)) :
    Calls Try.prog 28 #[.slice A L.length k0, .int .i64 a, .int .i64 b, .slice A2 row.length k2] w fun en w' => en = .returned (.tuple #[.int .i64 s, .bool (e == b)]) ∧ Ext w w' := by
  have HS0 : Hid (alongC L a 0 (row.drop 0) = some (e, s)) := hs
  have HI := hid hi
  have HM := hid hm
  clear hs hi hm
  go_enter Try.func28, Try.ntmps28
  go_wp2
  go_loopw [1, 10, 15] (fun at_ o i wr => ∃ (k : Nat) (p q : Int), at_ = .int .i64 p ∧ o = .int .i64 q ∧ i = .int .i64 (k : Int) ∧ k ≤ row.length ∧ -2000 * (k : Int) ≤ q ∧ q ≤ 2000 * (k : Int) ∧ Hid (alongC L p q (row.drop k) = some (e, s)) ∧ Ext w wr) (fun _ _ i _ => row.length - (intOf i).toNat)
  case atStart => exact ⟨0, a, 0, rfl, rfl, rfl, Nat.zero_le _, by omega, by omega, HS0, Ext.refl _⟩
  case round =>
    obtain ⟨k, p, q, rfl, rfl, rfl, hk, hq1, hq2, HS, hx⟩ := hrel
    by_cases hlt : k < row.length
    · have hlt' : (k : Int) < (row.length : Int) := by omega
      obtain ⟨i, hik⟩ := get_of_lt row k hlt
      have hii := HI.out i (mem_of_get hik)
      obtain ⟨n, rfl⟩ : ∃ n : Nat, i = n := ⟨i.toNat, by omega⟩
      obtain ⟨x, hxn⟩ := get_of_lt L n (by omega)
      have hmx := HM.out x (mem_of_get hxn)
      have hst := HS.out
      rw [List.drop_eq_getElem_cons hlt, (List.getElem?_eq_some_iff.1 hik).2] at hst
      simp only [alongC, Int.toNat_natCast, hxn] at hst
      have hf : x.f = p := by
        by_cases h : x.f = p
        · exact h
        · rw [if_neg h] at hst; cases hst
      rw [if_pos hf] at hst
      have HS2 := hid hst
      obtain ⟨b2, off2, rfl, r0⟩ := (hR.ext hx).at_ hik
      obtain ⟨b1, off1, rfl, c0, c1, c2⟩ := (hA.ext hx).at_ hxn
      rw [hf] at c0
      have hn0 : ¬ (n : Int) < 0 := by omega
      have hn1 : (n : Int) < (L.length : Int) := hii.2
      have hn2 : ¬ (L.length : Int) ≤ (n : Int) := by omega
      clear hst hik hxn hf HS
      go_wp2
      have FX0 : ∀ w', Ext wr w' → w'.cell? ⟨b1, off1 + n * 3 + 1, none⟩ = some (.int .i64 x.t) ∧ w'.cell? ⟨b1, off1 + n * 3 + 2, none⟩ = some (.int .i64 x.m) := fun w' h => ⟨h.cell c1, h.cell c2⟩
      have FX := hid FX0
      have hsum : IntKind.i64.wrap (q + x.m) = q + x.m := IntWalk.i64_in _ ⟨by omega, by omega⟩
      clear FX0 c0 c1 c2 r0
      refine wp_region_opens Ext (fun w' => Ext wr w') (fun _ => none) (by kernel_rfl) (by kernel_rfl) (fun _ _ h k => h.trans k) (fun i R hR => by cases hR) (Ext.drew (Ext.refl wr)) ?_
      refine wpM_val ?ua0 rfl rfl Ext.refl (fun w' hD => ?ha0) ?na0
      case ha0 =>
        obtain ⟨d0, d1⟩ := FX.out w' hD.1
        go_simp; rfl
      simp only [Act.put, List.setIfInBounds_toArray, List.set_cons_succ, List.set_cons_zero, Nat.reduceAdd]
      refine wpM_val ?ua1 rfl rfl Ext.refl (fun w' hD => ?ha1) ?na1
      case ha1 =>
        obtain ⟨d0, d1⟩ := FX.out w' hD.1
        go_simp; rfl
      simp only [Act.put, List.setIfInBounds_toArray, List.set_cons_succ, List.set_cons_zero, Nat.reduceAdd]
      refine wpM_val ?ua2 rfl rfl Ext.refl (fun w' hD => ?ha2) ?na2
      case ha2 =>
        obtain ⟨d0, d1⟩ := FX.out w' hD.1
        go_simp; rfl
      simp only [Act.put, List.setIfInBounds_toArray, List.set_cons_succ, List.set_cons_zero, Nat.reduceAdd]
      refine wpM_val ?ua3 rfl rfl Ext.refl (fun w' hD => ?ha3) ?na3
      case ha3 =>
        obtain ⟨d0, d1⟩ := FX.out w' hD.1
        go_simp; rfl
      simp only [Act.put, List.setIfInBounds_toArray, List.set_cons_succ, List.set_cons_zero, Nat.reduceAdd]
      refine wpM_val ?ua4 rfl rfl Ext.refl (fun w' hD => ?ha4) ?na4
      case ha4 =>
        obtain ⟨d0, d1⟩ := FX.out w' hD.1
        go_simp; rfl
      simp only [Act.put, List.setIfInBounds_toArray, List.set_cons_succ, List.set_cons_zero, Nat.reduceAdd]
      refine wpM_val ?ua5 rfl rfl Ext.refl (fun w' hD => ?ha5) ?na5
      case ha5 =>
        obtain ⟨d0, d1⟩ := FX.out w' hD.1
        go_simp; rfl
      simp only [Act.put, List.setIfInBounds_toArray, List.set_cons_succ, List.set_cons_zero, Nat.reduceAdd]
      refine wpM_val ?ua6 rfl rfl Ext.refl (fun w' hD => ?ha6) ?na6
      case ha6 =>
        obtain ⟨d0, d1⟩ := FX.out w' hD.1
        go_simp; rfl
      simp only [Act.put, List.setIfInBounds_toArray, List.set_cons_succ, List.set_cons_zero, Nat.reduceAdd]
      refine wpM_val ?ua7 rfl rfl Ext.refl (fun w' hD => ?ha7) ?na7
      case ha7 =>
        obtain ⟨d0, d1⟩ := FX.out w' hD.1
        go_simp; rfl
      simp only [Act.put, List.setIfInBounds_toArray, List.set_cons_succ, List.set_cons_zero, Nat.reduceAdd]
      refine wpM_val ?ua8 rfl rfl Ext.refl (fun w' hD => ?ha8) ?na8
      case ha8 =>
        obtain ⟨d0, d1⟩ := FX.out w' hD.1
        go_simp; rfl
      simp only [Act.put, List.setIfInBounds_toArray, List.set_cons_succ, List.set_cons_zero, Nat.reduceAdd]
      refine wpM_val ?ua9 rfl rfl Ext.refl (fun w' hD => ?ha9) ?na9
      case ha9 =>
        obtain ⟨d0, d1⟩ := FX.out w' hD.1
        go_simp; rfl
      simp only [Act.put, List.setIfInBounds_toArray, List.set_cons_succ, List.set_cons_zero, Nat.reduceAdd]
      refine wpM_val ?ua10 rfl rfl Ext.refl (fun w' hD => ?ha10) ?na10
      case ha10 =>
        obtain ⟨d0, d1⟩ := FX.out w' hD.1
        go_simp; rfl
      simp only [Act.put, List.setIfInBounds_toArray, List.set_cons_succ, List.set_cons_zero, Nat.reduceAdd]
      refine wpM_val ?ua11 rfl rfl Ext.refl (fun w' hD => ?ha11) ?na11
      case ha11 =>
        obtain ⟨d0, d1⟩ := FX.out w' hD.1
        go_simp; rfl
      simp only [Act.put, List.setIfInBounds_toArray, List.set_cons_succ, List.set_cons_zero, Nat.reduceAdd]
      refine wpM_val ?ua12 rfl rfl Ext.refl (fun w' hD => ?ha12) ?na12
      case ha12 =>
        obtain ⟨d0, d1⟩ := FX.out w' hD.1
        go_simp; rfl
      simp only [Act.put, List.setIfInBounds_toArray, List.set_cons_succ, List.set_cons_zero, Nat.reduceAdd]
      refine wpM_val ?ua13 rfl rfl Ext.refl (fun w' hD => ?ha13) ?na13
      case ha13 =>
        obtain ⟨d0, d1⟩ := FX.out w' hD.1
        go_simp; rfl
      simp only [Act.put, List.setIfInBounds_toArray, List.set_cons_succ, List.set_cons_zero, Nat.reduceAdd]
      refine wpM_nil ?_
      intro w9 hw9 hF9
      have hx9 := hx.trans hw9
      clear hF9 FX hsum
      go_wp2
      go_roundw
      case rel => exact ⟨k + 1, x.t, q + x.m, rfl, rfl, by go_num, by omega, by omega, by omega, HS2, hx9⟩
      case measure => simp [intOf]; omega
    · have hlt' : ¬ (k : Int) < (row.length : Int) := by omega
      have hst := HS.out
      rw [List.drop_eq_nil_of_le (by omega)] at hst
      simp only [alongC, Option.some.injEq, Prod.mk.injEq] at hst
      obtain ⟨rfl, rfl⟩ := hst
      go_wp2
      go_ret2
      exact ⟨rfl, hx⟩
end Go.Proofs.Ytgnjhaomlbkgcaa

namespace Go.Proofs.Ytgnjhaomlbkgcaa
open Go Go.RowKit Go.Shelf
set_option linter.unusedVariables false
set_option linter.unusedSimpArgs false
attribute [local go_sem] Oper.semAt_some

set_option maxRecDepth 100000 in
set_option maxHeartbeats 2000000 in
theorem broken_none (v : Value) (c : Cs) (A : Option Addr) (k : Nat) (l : List Int) (w : World) (hc : CsR w v c) (hs : c.sized) (hA : Ints w A l) (h52 : c.all.length ≤ 52) (hl : ∀ x ∈ l, -1000000 ≤ x ∧ x ≤ 1000000) (hin : ∀ b ∈ c.all, bdIn l.length b) (hall : ∀ b ∈ c.all, bdHolds l b = true) :
    Calls Try.prog 118 #[v, .slice A l.length k] w fun e w' => e = .returned (.slice none 0 0) ∧ Ext w w' := by
  obtain ⟨A1, c1, A2, c2, rfl, hB, hC⟩ := hc
  have HL := hid hl
  have HIN := hid hin
  have HALL := hid hall
  clear hl hin hall
  refine callsIn_wide (n := 9).1 ?_
  refine callsIn_of_wp_marks Try.func118 rfl trivial ?_ rfl
  simp only [Try.ntmps118, List.size_toArray, List.length_cons, List.length_nil, Nat.reduceAdd, Nat.reduceSub, Array.replicate_succ, Array.replicate_zero, List.push_toArray, List.append_toArray, List.nil_append, List.cons_append]
  gi_wp2
  obtain ⟨W0, hW0⟩ : ∃ W0, (((w.alloc (.cells #[.int .i64 c.ev, .slice A1 c.bs.length c1, .int .i64 c.wi, .slice A2 c.cl.length c2] 26)).alloc (.cells #[.slice A l.length k] 27)).alloc (.cells #[.slice none 0 0] 27)) = W0 := ⟨_, rfl⟩
  rw [hW0]
  have hX0 : Ext w W0 := by rw [← hW0]; exact ((Ext.refl w).alloc _ |>.alloc _).alloc _
  have hk0 : W0.cell? ⟨w.heap.size, 0, none⟩ = some (.int .i64 c.ev) := by rw [← hW0]; simp [go_sem]
  have hk1 : W0.cell? ⟨w.heap.size, 1, none⟩ = some (.slice A1 c.bs.length c1) := by rw [← hW0]; simp [go_sem]
  have hk2 : W0.cell? ⟨w.heap.size, 2, none⟩ = some (.int .i64 c.wi) := by rw [← hW0]; simp [go_sem]
  have hk3 : W0.cell? ⟨w.heap.size, 3, none⟩ = some (.slice A2 c.cl.length c2) := by rw [← hW0]; simp [go_sem]
  have hm0 : W0.cell? ⟨w.heap.size + 1, 0, none⟩ = some (.slice A l.length k) := by rw [← hW0]; simp [go_sem]
  have hD0 : W0.heap[w.heap.size + 1 + 1]? = some (.cells #[.slice none 0 0] 27 (0, 0)) := by
    rw [← hW0]
    have h := heap_alloc_new ((w.alloc (.cells #[.int .i64 c.ev, .slice A1 c.bs.length c1, .int .i64 c.wi, .slice A2 c.cl.length c2] 26)).alloc (.cells #[.slice A l.length k] 27)) (.cells #[.slice none 0 0] 27)
    simpa using h
  have hCb : W0.heap[w.heap.size]? = some (.cells #[.int .i64 c.ev, .slice A1 c.bs.length c1, .int .i64 c.wi, .slice A2 c.cl.length c2] 26 (0, 0)) := by
    rw [← hW0, Below.heap_alloc _ _ _ (by simp; omega), Below.heap_alloc _ _ _ (by simp)]
    exact World.alloc_heap_new _ _
  have hr0 : W0.cell? ⟨w.heap.size + 1 + 1, 0, none⟩ = some (.slice none 0 0) := by rw [← hW0]; simp [go_sem]
  have hz0 : W0.heap.size = w.heap.size + 3 := by rw [← hW0]; simp
  clear hW0
  have FX : Hid (∀ w', Ext W0 w' → w'.cell? ⟨w.heap.size, 0, none⟩ = some (.int .i64 c.ev) ∧ w'.cell? ⟨w.heap.size, 1, none⟩ = some (.slice A1 c.bs.length c1) ∧ w'.cell? ⟨w.heap.size, 2, none⟩ = some (.int .i64 c.wi) ∧ w'.cell? ⟨w.heap.size, 3, none⟩ = some (.slice A2 c.cl.length c2)) := fun w' h => ⟨h.cell hk0, h.cell hk1, h.cell hk2, h.cell hk3⟩
  refine wpIn_wide.2 ?_
  refine wp_region_opens Ext (fun w' => Ext W0 w') (fun | 1 => some (fun v _ => v = .agg #[.func (.func 148) #[] #[]]) | 2 => some (fun v w' => ∃ P1 P2, v = .func (.func 149) #[] #[.pointer (some ⟨P1, 0, none⟩), .pointer (some ⟨P2, 0, none⟩)] ∧ W0.heap.size ≤ P1 ∧ W0.heap.size ≤ P2 ∧ w'.cell? ⟨P1, 1, none⟩ = some (.slice A1 c.bs.length c1) ∧ w'.cell? ⟨P1, 3, none⟩ = some (.slice A2 c.cl.length c2) ∧ w'.cell? ⟨P2, 0, none⟩ = some (.func (.func 148) #[] #[])) | _ => none) (by kernel_rfl) (by kernel_rfl) (fun _ _ h k => h.trans k) ?hTa (Ext.drew (Ext.refl W0)) ?_
  case hTa =>
    intro i R hR
    match i, hR with
    | 1, hR => cases hR; exact fun _ _ _ h _ => h
    | 2, hR => cases hR; exact fun _ _ _ ⟨P1, P2, e1, e2, e3, e4, e5, e6⟩ k => ⟨P1, P2, e1, e2, e3, k.cell e4, k.cell e5, k.cell e6⟩
  refine wpM_val ?ua0 rfl rfl Ext.refl (fun w' hD => ?ha0) ?na0
  case ha0 =>
    obtain ⟨d0, d1, d2, d3⟩ := FX.out w' hD.1
    go_simp; rfl
  simp only [Act.put, List.setIfInBounds_toArray, List.set_cons_succ, List.set_cons_zero, Nat.reduceAdd]
  refine wpM_op _ rfl rfl (opens_call ?fa1 ?ga1 (fun w' hD => ?ha1) (fun w' hD => ?ca1)) (fun v1 hv1 => ?na1)
  case ha1 => go_simp; constructor <;> rfl
  case ca1 =>
    refine (everyone_any w').mono ?_
    rintro e w2 ⟨rfl, hb⟩
    exact ⟨_, rfl, hb, rfl⟩
  obtain ⟨_, _, _, rfl⟩ := hv1
  simp only [Act.put, List.setIfInBounds_toArray, List.set_cons_succ, List.set_cons_zero, Nat.reduceAdd]
  refine wpM_op _ rfl rfl (opens_call ?fa2 ?ga2 (fun w' hD => ?ha2) (fun w' hD => ?ca2)) (fun v2 hv2 => ?na2)
  case ha2 => go_simp; constructor <;> rfl
  case ca2 =>
    refine (believed_any _ _ (.func (.func 148) #[] #[]) c w' rfl ⟨_, _, _, rfl⟩ A1 A2 c1 c2 rfl).mono ?_
    rintro e w2 ⟨rfl, rfl⟩
    exact ⟨_, rfl, Ext.alloc (Ext.alloc (Ext.refl _) _) _, w'.heap.size, w'.heap.size + 1, rfl, hD.1.size, Nat.le_succ_of_le hD.1.size, by simp [go_sem], by simp [go_sem], by simp [go_sem]⟩
  obtain ⟨_, -, -, P1, P2, rfl, -⟩ := hv2
  simp only [Act.put, List.setIfInBounds_toArray, List.set_cons_succ, List.set_cons_zero, Nat.reduceAdd]
  refine wpM_nil ?_
  intro w9 hw9 hF9
  obtain ⟨-, Q1, Q2, e9, f1, f2, f3, f4, f5⟩ := hF9 2
  cases e9
  clear hF9 FX
  have hin0 := HIN.out
  have hsz9 := hw9.size
  have hx9 : Ext w w9 := hX0.trans hw9
  have hs1 : c.all.length ≤ 9223372036854775807 := by omega
  have hdd : w9.heap[w.heap.size]? = some (.cells #[.int .i64 c.ev, .slice A1 c.bs.length c1, .int .i64 c.wi, .slice A2 c.cl.length c2] 26 (0, 0)) := (Below.block hw9 _ (Array.getElem?_eq_some_iff.1 hCb).1).trans hCb
  have hrr := hw9.cell hr0
  have hmm := hw9.cell hm0
  clear hCb hr0 hD0 hm0 hk0 hk1 hk2 hk3 hin0
  gi_wp2
  refine wpIn_rangeFunc_ownH (F := Fence.wide) (n := 9) rfl (by omega) (gf := 149) (lb := #[.pointer (some ⟨P1, 0, none⟩), .pointer (some ⟨P2, 0, none⟩)]) rfl trivial (enters_of Try.func149 (by kernel_rfl) rfl)
    (believed_stops _ P1 P2 w.heap.size c allT (.func (.func 148) #[] #[]) w w9 A1 A2 c1 c2 hB hC (everyone_fn w) (by omega) (by omega) (by omega) hs1 hs.2.1 hx9.kc (by omega) f3 f4 f5) Cel.trans cel_b (Below.refl _ _) (fun _ => rfl)
    (fun pre W' => Bel w.heap.size w9 W') (fun _ _ _ => False)
    (own_bel (Nat.le_refl _)) (fun _ _ _ _ _ hs _ _ => hs) (Bel.refl _ _)
    (fun x a' W' => ∃ Bx, w9.heap.size ≤ Bx ∧ BdBox W' Bx x.1.2 ∧ a' = { tmps := #[.agg #[.int .i64 c.ev, .slice A1 c.bs.length c1, .int .i64 c.wi, .slice A2 c.cl.length c2], .slice A l.length k, .pointer (some ⟨w.heap.size, 0, none⟩), .pointer (some ⟨w.heap.size + 1, 0, none⟩), .slice none 0 0, .pointer (some ⟨w.heap.size + 1 + 1, 0, none⟩), .int .i64 (x.1.1 : Int), .pointer (some ⟨Bx, 0, none⟩), .agg #[.int .i64 c.ev, .slice A1 c.bs.length c1, .int .i64 c.wi, .slice A2 c.cl.length c2], .agg #[.func (.func 148) #[] #[]], .func (.func 149) #[] #[.pointer (some ⟨P1, 0, none⟩), .pointer (some ⟨P2, 0, none⟩)], .int .i64 (x.1.1 : Int), x.1.2.val, undef, undef, undef, undef, undef, undef, undef, undef, undef, undef, undef, undef, undef, undef, undef, undef, undef, undef, undef], defers := [] })
    (fun x a' _ X Y row hs hg hr => by obtain ⟨Bx, h1, h2, h3⟩ := hs; exact ⟨Bx, h1, own_bdbox _ Bx x.1.2 () X Y row h2 hg hr, h3⟩)
    ?assign ?body ?done ?stop
  case assign =>
    rintro lv pre x W' K hi2 hK
    have hs2 := hi2.size
    obtain ⟨⟨nn, ⟨f, t, m⟩⟩, hx⟩ := x
    simp only [encNB, Bd.val] at *
    gi_wp2
    refine hK _ _ ((KeepsOthers.alloc _ _).from _) (Ext.cel (Ext.alloc (Ext.refl _) _)) (hi2.trans (Ext.bel (Ext.alloc (Ext.refl _) _))) ⟨W'.heap.size, by omega, World.alloc_heap_new _ _, ?_⟩
    rfl
  case body =>
    rintro lv pre x a' W' hl ⟨r, hr⟩ hb2 ⟨Bx, hBx, hXb, rfl⟩ hlt2
    obtain ⟨⟨nn, ⟨f, t, m⟩⟩, hx⟩ := x
    have hbL : (⟨f, t, m⟩ : Bd) ∈ c.all := bel_mem' (List.mem_map.2 ⟨_, hx, rfl⟩)
    have hbk := HIN.out _ hbL
    have hho := HALL.out _ hbL
    obtain ⟨⟨f0, f1⟩, ⟨t0, t1⟩, m0, m1⟩ := hbk
    simp only at f0 f1 t0 t1 m0 m1
    obtain ⟨fn, rfl⟩ : ∃ k : Nat, f = k := ⟨f.toNat, by omega⟩
    obtain ⟨tn, rfl⟩ : ∃ k : Nat, t = k := ⟨t.toNat, by omega⟩
    obtain ⟨x, hxx⟩ := get_of_lt l fn (by omega)
    obtain ⟨y, hyy⟩ := get_of_lt l tn (by omega)
    have bx := HL.out x (mem_of_get hxx)
    have by_ := HL.out y (mem_of_get hyy)
    have hle : y ≤ x + m := by
      unfold bdHolds at hho
      simp only [Int.toNat_natCast, List.getD_eq_getElem?_getD, hxx, hyy, Option.getD_some] at hho
      simpa using hho
    have hxW : Ext w W' := hx9.then_bel (Nat.le_refl _) hb2
    obtain ⟨b1, o1, rfl, cx⟩ := (hA.ext hxW).at_ hxx
    obtain ⟨b2, o2, e2, cy⟩ := (hA.ext hxW).at_ hyy
    cases e2
    obtain ⟨e0, e1, e2⟩ := hXb.cells
    simp only at e0 e1 e2
    have qm := hb2.cell hmm (by simp)
    have hsum : IntKind.i64.wrap (x + m) = x + m := IntWalk.i64_in _ ⟨by omega, by omega⟩
    have hgt : ¬ y > x + m := by omega
    have hgtd : decide (y > x + m) = false := by simpa using hgt
    clear hA hxx hyy hho
    gi_wp2
    have FX : Hid (∀ w', Ext W' w' → w'.cell? ⟨Bx, 0, none⟩ = some (.int .i64 (fn : Int)) ∧ w'.cell? ⟨Bx, 1, none⟩ = some (.int .i64 (tn : Int)) ∧ w'.cell? ⟨Bx, 2, none⟩ = some (.int .i64 m) ∧ w'.cell? ⟨w.heap.size + 1, 0, none⟩ = some (.slice (some ⟨b1, o1, none⟩) l.length k) ∧
        w'.cell? ⟨b1, o1 + fn, none⟩ = some (.int .i64 x) ∧ w'.cell? ⟨b1, o1 + tn, none⟩ = some (.int .i64 y)) :=
      fun w' h => ⟨h.cell e0, h.cell e1, h.cell e2, h.cell qm, h.cell cx, h.cell cy⟩
    clear e0 e1 e2 qm cx cy
    refine wpIn_region_opens Ext (fun w' => Ext W' w') (fun _ => none) (by kernel_rfl) (by kernel_rfl) (fun _ _ h k => h.trans k) (fun i R h => by cases h) (Ext.drew (Ext.refl W')) ?_
    refine wpM_val ?ub0 rfl rfl Ext.refl (fun w2 hD => ?hb0) ?nb0
    case hb0 =>
      obtain ⟨d0, d1, d2, dm, dx, dy⟩ := FX.out w2 hD.1
      go_simp; rfl
    simp only [Act.put, List.setIfInBounds_toArray, List.set_cons_succ, List.set_cons_zero, Nat.reduceAdd]
    refine wpM_val ?ub1 rfl rfl Ext.refl (fun w2 hD => ?hb1) ?nb1
    case hb1 =>
      obtain ⟨d0, d1, d2, dm, dx, dy⟩ := FX.out w2 hD.1
      go_simp; rfl
    simp only [Act.put, List.setIfInBounds_toArray, List.set_cons_succ, List.set_cons_zero, Nat.reduceAdd]
    refine wpM_val ?ub2 rfl rfl Ext.refl (fun w2 hD => ?hb2) ?nb2
    case hb2 =>
      obtain ⟨d0, d1, d2, dm, dx, dy⟩ := FX.out w2 hD.1
      go_simp; rfl
    simp only [Act.put, List.setIfInBounds_toArray, List.set_cons_succ, List.set_cons_zero, Nat.reduceAdd]
    refine wpM_val ?ub3 rfl rfl Ext.refl (fun w2 hD => ?hb3) ?nb3
    case hb3 =>
      obtain ⟨d0, d1, d2, dm, dx, dy⟩ := FX.out w2 hD.1
      go_simp; rfl
    simp only [Act.put, List.setIfInBounds_toArray, List.set_cons_succ, List.set_cons_zero, Nat.reduceAdd]
    refine wpM_val ?ub4 rfl rfl Ext.refl (fun w2 hD => ?hb4) ?nb4
    case hb4 =>
      obtain ⟨d0, d1, d2, dm, dx, dy⟩ := FX.out w2 hD.1
      go_simp; rfl
    simp only [Act.put, List.setIfInBounds_toArray, List.set_cons_succ, List.set_cons_zero, Nat.reduceAdd]
    refine wpM_val ?ub5 rfl rfl Ext.refl (fun w2 hD => ?hb5) ?nb5
    case hb5 =>
      obtain ⟨d0, d1, d2, dm, dx, dy⟩ := FX.out w2 hD.1
      go_simp; rfl
    simp only [Act.put, List.setIfInBounds_toArray, List.set_cons_succ, List.set_cons_zero, Nat.reduceAdd]
    refine wpM_val ?ub6 rfl rfl Ext.refl (fun w2 hD => ?hb6) ?nb6
    case hb6 =>
      obtain ⟨d0, d1, d2, dm, dx, dy⟩ := FX.out w2 hD.1
      go_simp; rfl
    simp only [Act.put, List.setIfInBounds_toArray, List.set_cons_succ, List.set_cons_zero, Nat.reduceAdd]
    refine wpM_val ?ub7 rfl rfl Ext.refl (fun w2 hD => ?hb7) ?nb7
    case hb7 =>
      obtain ⟨d0, d1, d2, dm, dx, dy⟩ := FX.out w2 hD.1
      go_simp; rfl
    simp only [Act.put, List.setIfInBounds_toArray, List.set_cons_succ, List.set_cons_zero, Nat.reduceAdd]
    refine wpM_val ?ub8 rfl rfl Ext.refl (fun w2 hD => ?hb8) ?nb8
    case hb8 =>
      obtain ⟨d0, d1, d2, dm, dx, dy⟩ := FX.out w2 hD.1
      go_simp; rfl
    simp only [Act.put, List.setIfInBounds_toArray, List.set_cons_succ, List.set_cons_zero, Nat.reduceAdd]
    refine wpM_val ?ub9 rfl rfl Ext.refl (fun w2 hD => ?hb9) ?nb9
    case hb9 =>
      obtain ⟨d0, d1, d2, dm, dx, dy⟩ := FX.out w2 hD.1
      go_simp; rfl
    simp only [Act.put, List.setIfInBounds_toArray, List.set_cons_succ, List.set_cons_zero, Nat.reduceAdd]
    refine wpM_val ?ub10 rfl rfl Ext.refl (fun w2 hD => ?hb10) ?nb10
    case hb10 =>
      obtain ⟨d0, d1, d2, dm, dx, dy⟩ := FX.out w2 hD.1
      go_simp; rfl
    simp only [Act.put, List.setIfInBounds_toArray, List.set_cons_succ, List.set_cons_zero, Nat.reduceAdd]
    refine wpM_val ?ub11 rfl rfl Ext.refl (fun w2 hD => ?hb11) ?nb11
    case hb11 =>
      obtain ⟨d0, d1, d2, dm, dx, dy⟩ := FX.out w2 hD.1
      go_simp; rfl
    simp only [Act.put, List.setIfInBounds_toArray, List.set_cons_succ, List.set_cons_zero, Nat.reduceAdd]
    refine wpM_val ?ub12 rfl rfl Ext.refl (fun w2 hD => ?hb12) ?nb12
    case hb12 =>
      obtain ⟨d0, d1, d2, dm, dx, dy⟩ := FX.out w2 hD.1
      go_simp; rfl
    simp only [Act.put, List.setIfInBounds_toArray, List.set_cons_succ, List.set_cons_zero, Nat.reduceAdd]
    refine wpM_val ?ub13 rfl rfl Ext.refl (fun w2 hD => ?hb13) ?nb13
    case hb13 =>
      obtain ⟨d0, d1, d2, dm, dx, dy⟩ := FX.out w2 hD.1
      go_simp; rfl
    simp only [Act.put, List.setIfInBounds_toArray, List.set_cons_succ, List.set_cons_zero, Nat.reduceAdd]
    refine wpM_nil ?_
    intro x9 hx9q hF9
    have hb9 := hb2.trans (Ext.bel hx9q)
    gi_wp2
    exact ⟨⟨hx9q.size, fun kk o _ hk ho => (Below.block hx9q kk (Array.getElem?_eq_some_iff.1 hk).1).trans hk⟩, Ext.cel hx9q, hb9⟩
  case done =>
    rintro D3 xs W3 hD3 hxs hb3 hK3
    have hm3 := (Marks.nil w.heap.size w9).cons hb3 hdd hK3 hD3 (by omega)
    have hc3 := hb3.cell hrr (by simp; omega)
    gi_wp2
    refine leaves_marks (by simp) _ _ hm3 fun W' hb hc => ?_
    have hxx : Ext w W' := Below.trans (hx9.then_bel (Nat.le_refl _) hb3) hb
    first
      | exact ⟨_, results_tmp rfl _ _ _, rfl, hxx⟩
      | exact ⟨_, results_tmp rfl _ _ _, _, rfl, hxx⟩
  case stop =>
    rintro D c pre W _ _ h _
    exact h.elim
end Go.Proofs.Ytgnjhaomlbkgcaa

namespace Go.Proofs.Ytgnjhaomlbkgcaa
open Go Go.RowKit Go.Shelf
set_option linter.unusedVariables false
set_option linter.unusedSimpArgs false

theorem minutes1_fn (w : World) :
    FnP Try.prog (.func (.func 143) #[] #[]) w IntR anyx (fun i => inB i (-10000) 10000) := by
  refine ⟨_, _, _, rfl, enters_of Try.func143 (by kernel_rfl) rfl, fun x v2 W _ hW hR => ?_⟩
  obtain rfl : v2 = .int .i64 x := hR
  show Calls _ _ #[_] _ _
  go_enter Try.func143, Try.ntmps143
  go_wp2_with fail
  refine (in_any _ _ _ _).mono ?_
  rintro e w1 ⟨rfl, rfl⟩
  go_wp2
  go_ret
  exact ⟨rfl, Ext.refl _⟩

set_option maxRecDepth 100000 in
set_option maxHeartbeats 2000000 in
theorem minutes_yes (v : Value) (c : Cs) (A : Option Addr) (k : Nat) (l : List Int) (w : World) (hc : CsR w v c) (hs : c.sized) (hA : Ints w A l) (h0 : checkC c = 0) (hl : (l.length : Int) = c.ev) (hm : ∀ x ∈ l, -10000 ≤ x ∧ x ≤ 10000) :
    Calls Try.prog 117 #[v, .slice A l.length k] w fun e w' => e = .returned (.int .i64 0) ∧ Ext w w' := by
  have hc' := hc
  obtain ⟨A1, c1, A2, c2, rfl, hB, hC⟩ := hc
  have H0 := hid h0
  have HL := hid hl
  have HM := hid hm
  have hall : (l.all fun i => inB i (-10000) 10000) = true := List.all_eq_true.2 fun x hx => inB_iff.2 (hm x hx)
  have hev := checkC_ev h0
  clear hl hm
  go_enter Try.func117, Try.ntmps117
  go_wp2_with fail
  have hx0 : Ext w (w.alloc (.cells #[.int .i64 c.ev, .slice A1 c.bs.length c1, .int .i64 c.wi, .slice A2 c.cl.length c2] 26)) := Ext.alloc (Ext.refl w) _
  refine (check_any _ c _ (hc'.ext hx0) hs).mono ?_
  rintro e w1 ⟨rfl, hb1⟩
  have hx1 := hx0.trans hb1
  have kc0 := hb1.cell (p := ⟨w.heap.size, 0, none⟩) (u := .int .i64 c.ev) (by simp [go_sem])
  rw [h0]
  clear h0
  rw [← HL.out] at kc0
  go_wp2_with fail
  refine (every_int A k l _ anyx _ w1 (hA.ext hx1) (by have := HL.out; omega) (anyx_all _) (minutes1_fn w1)).mono ?_
  rintro e w2 ⟨rfl, hb2⟩
  rw [hall]
  go_wp2
  go_ret
  exact ⟨rfl, hx1.trans hb2⟩

set_option maxRecDepth 100000 in
set_option maxHeartbeats 2000000 in
theorem holdsw_yes (v : Value) (c : Cs) (A : Option Addr) (k : Nat) (l : List Int) (w : World) (hc : CsR w v c) (hs : c.sized) (hA : Ints w A l) (h0 : checkC c = 0) (hl : (l.length : Int) = c.ev) (hm : ∀ x ∈ l, -10000 ≤ x ∧ x ≤ 10000) (hz : l[0]? = some 0) (hall : ∀ b ∈ c.all, bdHolds l b = true) :
    Calls Try.prog 62 #[v, .slice A l.length k] w fun e w' => e = .returned (.tuple #[.bool true, .int .i64 0]) ∧ Ext w w' := by
  have hc' := hc
  obtain ⟨A1, c1, A2, c2, rfl, hB, hC⟩ := hc
  have HL := hid hl
  have HM := hid hm
  have HA := hid hall
  have H0 := hid h0
  have h52 := checkC_52 h0
  have hev := checkC_ev h0
  have hlen : (0 : Int) < (l.length : Int) := by omega
  have HIN : Hid (∀ b ∈ c.all, bdIn l.length b) := fun b hb => by
    have e1 := evOK_get (checkC_ok h0).2.2.1 hb
    have e2 := limOK_get (checkC_ok h0).2.1 hb
    exact ⟨by omega, by omega, by omega⟩
  clear hm hall hl h0
  have hx0 : Ext w (w.alloc (.cells #[.int .i64 c.ev, .slice A1 c.bs.length c1, .int .i64 c.wi, .slice A2 c.cl.length c2] 26)) := Ext.alloc (Ext.refl w) _
  go_enter Try.func62, Try.ntmps62
  go_wp2_with fail
  refine (minutes_yes _ c A k l _ (hc'.ext hx0) hs (hA.ext hx0) H0.out HL.out HM.out).mono ?_
  rintro e w1 ⟨rfl, hb1⟩
  have hx1 := hx0.trans hb1
  have kc0 := hb1.cell (p := ⟨w.heap.size, 0, none⟩) (u := .int .i64 c.ev) (by simp [go_sem])
  have kc1 := hb1.cell (p := ⟨w.heap.size, 1, none⟩) (u := .slice A1 c.bs.length c1) (by simp [go_sem])
  have kc2 := hb1.cell (p := ⟨w.heap.size, 2, none⟩) (u := .int .i64 c.wi) (by simp [go_sem])
  have kc3 := hb1.cell (p := ⟨w.heap.size, 3, none⟩) (u := .slice A2 c.cl.length c2) (by simp [go_sem])
  obtain ⟨b1, o1, rfl, cz⟩ := (hA.ext hx1).at_ hz
  rw [Nat.add_zero] at cz
  go_wp2_with fail
  refine (broken_none _ c _ k l w1 (hc'.ext hx1) hs (hA.ext hx1) h52 (fun x hx => by have := HM.out x hx; omega) HIN.out HA.out).mono ?_
  rintro e w2 ⟨rfl, hb2⟩
  go_wp2
  go_ret2
  exact ⟨rfl, hx1.trans hb2⟩
end Go.Proofs.Ytgnjhaomlbkgcaa

namespace Go.Proofs.Ytgnjhaomlbkgcaa
open Go Go.RowKit
set_option linter.unusedVariables false
set_option linter.unusedSimpArgs false

/-- Where a bound x stands among those of a row, it is cut there. -/
theorem row_cutAt {L L' : List Bd} {x : Bd} (hs : ∀ y ∈ L', y ∈ L ∨ y = x) : ∀ {l : List Bd} {a b : Nat}, Row L' a b l → Row L a b l ∨ ∃ l1 l2, l = l1 ++ x :: l2 ∧ Row L a x.f.toNat l1 ∧ Row L' x.t.toNat b l2 := by
  intro l
  induction l with
  | nil => intro a b h; exact .inl ⟨fun y hy => (by cases hy), trivial, h.end_⟩
  | cons y l ih =>
    intro a b h
    obtain ⟨rfl, h2⟩ := h.chn
    have h3 : Row L' y.t.toNat b l := ⟨fun z hz => h.mem z (by simp [hz]), h2, h.end_⟩
    by_cases hyx : y = x
    · subst hyx
      exact .inr ⟨[], l, rfl, Row.nil _ _, h3⟩
    · have hyL : y ∈ L := (hs y (h.mem y (by simp))).resolve_right hyx
      rcases ih h3 with h4 | ⟨l1, l2, rfl, h4, h5⟩
      · exact .inl ((Row.one hyL).app h4)
      · exact .inr ⟨y :: l1, l2, rfl, (Row.one hyL).app h4, h5⟩
/-- Rows with x more are no shorter than those without. -/
theorem row_without {L L' : List Bd} {x : Bd} (hs : ∀ y ∈ L', y ∈ L ∨ y = x) (hx : ∀ l, Row L x.t.toNat x.f.toNat l → 0 ≤ sumW l + x.m) : ∀ (n : Nat) {l : List Bd} {e : Nat}, l.length ≤ n → Row L' x.t.toNat e l → ∃ m, Row L x.t.toNat e m ∧ sumW m ≤ sumW l := by
  intro n
  induction n with
  | zero =>
    intro l e hl h
    obtain rfl := List.eq_nil_of_length_eq_zero (Nat.le_zero.1 hl)
    exact ⟨[], ⟨fun y hy => (by cases hy), trivial, h.end_⟩, Int.le_refl _⟩
  | succ n ih =>
    intro l e hl h
    rcases row_cutAt hs h with h1 | ⟨l1, l2, rfl, h1, h2⟩
    · exact ⟨l, h1, Int.le_refl _⟩
    · obtain ⟨m, hm, hle⟩ := ih (l := l2) (by simp at hl; omega) h2
      have := hx l1 h1
      exact ⟨m, hm, by rw [sumW_app]; simp only [sumW]; omega⟩
theorem fine_more {L L' : List Bd} {x : Bd} (hf : Fine L) (hs : ∀ y ∈ L', y ∈ L ∨ y = x) (hx : ∀ l, Row L x.t.toNat x.f.toNat l → 0 ≤ sumW l + x.m) : Fine L' := by
  intro v l hv hr
  rcases row_cutAt hs hr with h1 | ⟨l1, l2, rfl, h1, h2⟩
  · exact hf v l hv h1
  · obtain ⟨m, hm, hle⟩ := row_without hs hx l2.length (Nat.le_refl _) h2
    have := hx (m ++ l1) (hm.app h1)
    rw [sumW_app] at this
    rw [sumW_app]
    simp only [sumW]
    omega
/-- If what is asked is open, a bound more that it was so, or not so, leaves a truth. -/
structure DecOK (c : Cs) (real : List Int) (a b : Nat) : Prop where
  code : (beforeOf c a b).2 = 0
  kind : (beforeOf c a b).1 = 0 ∨ (beforeOf c a b).1 = 1 ∨ (beforeOf c a b).1 = 2
  yes : (beforeOf c a b).1 = 1 → real.getD a 0 < real.getD b 0 ∧ gapsM allT c b a < 0
  no : (beforeOf c a b).1 = 2 → real.getD b 0 ≤ real.getD a 0 ∧ gapsM allT c a b ≤ 0
  self : a = b → (beforeOf c a b).1 = 2
  maybe : (beforeOf c a b).1 = 0 → ∀ x : Bd, x = ⟨(b : Int), (a : Int), -1⟩ ∨ x = ⟨(a : Int), (b : Int), 0⟩ → toldBC c x = 0 ∧ toldC (c.add x) = 0
theorem dec_ok {evm bm cm : Nat} {c : Cs} {real : List Int} (h : MadeOK evm bm cm 0 c real) (he : evm ≤ 8) (hbm : bm < 20) (hc : cm ≤ 8) {a b : Nat} (ha : (a : Int) < c.ev) (hb : (b : Int) < c.ev) : DecOK c real a b := by
  have h0 := h.check (Int.le_refl _) (by omega) he (by omega) hc
  have ht := h.truth
  have hf := ht.fine
  have hev := checkC_ev h0
  have hfb : Fine (belL allT c) := by rw [belL_all]; exact hf
  have htb : TruthOf (belL allT c) (fun k => real.getD k 0) := by rw [belL_all]; exact ht
  have hself : ∀ a : Nat, a < 8 → gapsM allT c a a = 0 := fun a ha => by
    have h1 := gap_le h0 hfb (a := a) (b := a) ha ha (Row.nil _ _)
    simp only [sumW] at h1
    have h2 : gapsM allT c a a ≠ far := by unfold far; omega
    have h3 := htb.gap h0 ha ha h2
    omega
  have hbe := before_is h0 hf ha hb
  have hv : (beforeOf c a b).1 = verdictM (gapsM allT c) a b := by rw [hbe]
  have hcases : verdictM (gapsM allT c) a b = if gapsM allT c b a < 0 then 1 else if gapsM allT c a b ≤ 0 then 2 else 0 := rfl
  refine ⟨by rw [hbe], hv ▸ ?_, fun h1 => ?_, fun h1 => ?_, fun e => hv ▸ ?_, fun h1 x hx => ?_⟩ <;> (try rw [hv] at h1)
  · rw [hcases]; split
    · exact .inr (.inl rfl)
    · split
      · exact .inr (.inr rfl)
      · exact .inl rfl
  · rw [hcases] at h1
    by_cases hg : gapsM allT c b a < 0
    · have := htb.gap h0 (a := b) (b := a) (by omega) (by omega) (by unfold far; omega)
      exact ⟨by omega, hg⟩
    · rw [if_neg hg] at h1; split at h1 <;> omega
  · rw [hcases] at h1
    by_cases hg : gapsM allT c b a < 0
    · rw [if_pos hg] at h1; omega
    · rw [if_neg hg] at h1
      by_cases hg2 : gapsM allT c a b ≤ 0
      · have := htb.gap h0 (a := a) (b := b) (by omega) (by omega) (by unfold far; omega)
        try simp only at this
        exact ⟨by omega, hg2⟩
      · rw [if_neg hg2] at h1; omega
  · subst e
    rw [hcases, hself a (by omega)]
    rfl
  · rw [hcases] at h1
    have g1 : ¬ gapsM allT c b a < 0 := fun hg => by rw [if_pos hg] at h1; omega
    rw [if_neg g1] at h1
    have g2 : ¬ gapsM allT c a b ≤ 0 := fun hg => by rw [if_pos hg] at h1; omega
    have hab : a ≠ b := fun e => by subst e; rw [hself a (by omega)] at g2; omega
    have hxok : (0 ≤ x.f ∧ x.f < c.ev) ∧ (0 ≤ x.t ∧ x.t < c.ev) ∧ x.f ≠ x.t ∧ -1 ≤ x.m ∧ x.m ≤ 0 := by
      rcases hx with rfl | rfl <;> (try simp only) <;> omega
    have hcheck : checkC (c.add x) = 0 := by
      obtain ⟨q1, q2, q3, q4, q5⟩ := checkC_ok h0
      obtain ⟨e1, e2, e3, e4, e5, e6, e7⟩ := manyOK_parts q1
      refine checkC_of (c := c.add x) ⟨e1, e2⟩ (by have := h.bsl; simp [Cs.add]; omega) ⟨e4, e5⟩ e6 (fun y hy => ?_) (fun y hy => ?_)
      · simp only [witOK, List.all_eq_true, inB_iff] at q4
        have := q4 y hy
        exact ⟨e7 y hy, this.1, by show y.w < c.wi; omega⟩
      · rcases add_all_mem.1 hy with hy | rfl
        · simp only [diffOK, List.all_eq_true] at q5
          have p4 := q5 y hy
          obtain ⟨p1, p2⟩ := evOK_get q3 hy
          exact ⟨p1, p2, by simpa using p4, limOK_get q2 hy⟩
        · exact ⟨hxok.1, hxok.2.1, hxok.2.2.1, by omega, by omega⟩
    have hfine : Fine (c.add x).all := by
      refine fine_more (x := x) hf (fun y hy => add_all_mem.1 hy) fun l hl => ?_
      rw [← belL_all] at hl
      rcases hx with rfl | rfl
      · simp only [Int.toNat_natCast] at hl
        have := gap_le h0 hfb (by omega) (by omega) hl
        (try simp only); omega
      · simp only [Int.toNat_natCast] at hl
        have := gap_le h0 hfb (by omega) (by omega) hl
        (try simp only); omega
    refine ⟨?_, ?_⟩
    · have e1 : bdsC c.ev [x] = 0 := by
        unfold bdsC
        have a1 : limOK [x] = true := by simp only [limOK, List.all_cons, List.all_nil, Bool.and_true, inB_iff]; omega
        have a2 : evOK c.ev [x] = true := by simp only [evOK, List.all_cons, List.all_nil, Bool.and_true, Bool.and_eq_true, inB_iff]; omega
        rw [a1, a2]; rfl
      unfold toldBC
      rw [if_neg (by rw [h0]; simp), if_neg (by rw [e1]; simp), if_neg hxok.2.2.1, if_neg (by have := h.bsl; omega)]
    · unfold toldC
      rw [if_pos hcheck, clash_of hcheck (by rw [belL_all]; exact hfine)]
      rfl
end Go.Proofs.Ytgnjhaomlbkgcaa

namespace Go.Proofs.Ytgnjhaomlbkgcaa
open Go Go.RowKit
set_option linter.unusedVariables false
set_option linter.unusedSimpArgs false

/-- What goes on while a row xs of L elements is copied and one element x is laid behind it. -/
def LaidS (B : Nat) (e : TypeId) (s L : Nat) (xs nw : List Value) (w w' : World) : Prop :=
  Below B w w' ∧ (∀ v, w.ownsRow B e s v L xs → w'.ownsRow B e s v L xs) ∧ (∀ g, Rd0 w g (xs ++ nw) → Rd0 w' g (xs ++ nw)) ∧ (∀ g, Rd0 w g nw → Rd0 w' g nw)
section
variable {B : Nat} {e : TypeId} {s L : Nat} {xs nw : List Value}
theorem LaidS.refl (w : World) : LaidS B e s L xs nw w w := ⟨Below.refl _ _, fun _ h => h, fun _ h => h, fun _ h => h⟩
theorem LaidS.trans {a b c : World} (h : LaidS B e s L xs nw a b) (k : LaidS B e s L xs nw b c) : LaidS B e s L xs nw a c :=
  ⟨h.1.trans k.1, fun v hv => k.2.1 v (h.2.1 v hv), fun g hg => k.2.2.1 g (h.2.2.1 g hg), fun g hg => k.2.2.2 g (h.2.2.2 g hg)⟩
theorem LaidS.of_ext {w w' : World} (h : Ext w w') (hB : B ≤ w.heap.size) : LaidS B e s L xs nw w w' :=
  ⟨Below.mono h hB, fun _ hv => own_below hv h, fun _ hg => hg.ext h, fun _ hg => hg.ext h⟩
theorem rd0_ownS {w : World} {g L' cap : Nat} {ys : List Value} (h : w.ownsRow B e s (.slice (some ⟨g, 0, none⟩) L' cap) L' ys) : Rd0 w g ys := by
  intro j u hu
  have := h.cells (g := g) rfl j u hu
  rwa [Addr.add_lit, Nat.zero_add] at this
/-- The row that was appended to in its place. -/
theorem LaidS.of_grown {w w' : World} {g cap : Nat} (hxs : xs.length = L * s) (hnw : nw.length = s) (h0 : w.ownsRow B e s (.slice (some ⟨g, 0, none⟩) L cap) L xs) (h1 : w'.ownsRow B e s (.slice (some ⟨g, 0, none⟩) (L + 1) cap) (L + 1) (xs ++ nw)) (hg : w.grownBy w' (some g)) : LaidS B e s L xs nw w w' := by
  have hBg := (h0.lt g rfl)
  have hne : ∀ k, k < w.heap.size → k ≠ g → w'.heap[k]? = w.heap[k]? := fun k hk hkg => hg.block k hk (fun e => hkg (by cases e; rfl))
  have hr1 := rd0_ownS h1
  refine ⟨(Below.refl B w).grown hg (by omega) (fun k e => by cases e; exact hBg.1), fun v hv => ?_, fun k hk => ?_, fun k hk => ?_⟩
  · refine ⟨hv.1, ?_⟩
    rcases hv.2 with h | ⟨g2, cap2, cur2, rfl, b1, b2, b3, b4, b5, b6⟩
    · exact .inl h
    · by_cases hgg : g2 = g
      · subst hgg
        rcases h0.2 with ⟨h, _⟩ | ⟨g3, cap3, cur3, e3, c1, c2, c3, c4, c5, c6⟩
        · cases h
        · cases e3
          rw [b2] at c2
          cases c2
          rcases h1.2 with ⟨h, _⟩ | ⟨g4, cap4, cur4, e4, d1, d2, d3, d4, d5, d6⟩
          · cases h
          · cases e4
            refine .inr ⟨g2, cap2, cur4, rfl, b1, d2, b3, b4, by rw [d5, ← c5, b5], ?_⟩
            have h2 := congrArg (List.take (L * s)) d6
            rw [List.take_take, List.take_left' (by omega), show min (L * s) ((L + 1) * s) = L * s by rw [Nat.add_mul]; omega] at h2
            exact h2
      · exact .inr ⟨g2, cap2, cur2, rfl, b1, (hne g2 (Array.getElem?_eq_some_iff.1 b2).1 hgg).trans b2, b3, b4, b5, b6⟩
  · by_cases hkg : k = g
    · subst hkg; exact hr1
    · intro j u hu
      have h2 := hk j u hu
      exact (World.cell?_of_block (a := ⟨k, j, none⟩) (hne k (World.block_lt_of_cell? w _ h2) hkg)).trans h2
  · by_cases hkg : k = g
    · subst hkg
      intro j u hu
      have hj : j < s := by have := (List.getElem?_eq_some_iff.1 hu).1; omega
      rcases Nat.eq_zero_or_pos L with hL | hL
      · have : xs = [] := List.eq_nil_of_length_eq_zero (by rw [hxs, hL]; simp)
        subst this
        exact hr1 j u hu
      · have hjx : j < xs.length := by rw [hxs]; exact Nat.lt_of_lt_of_le hj (Nat.le_mul_of_pos_left s hL)
        have h2 := hk j u hu
        have h3 : xs[j]? = some xs[j] := List.getElem?_eq_getElem hjx
        have h4 := rd0_ownS h0 j _ h3
        rw [h2] at h4
        have h5 := hr1 j xs[j] (by rw [List.getElem?_append_left hjx]; exact h3)
        rw [h5, ← h4]
    · intro j u hu
      have h2 := hk j u hu
      exact (World.cell?_of_block (a := ⟨k, j, none⟩) (hne k (World.block_lt_of_cell? w _ h2) hkg)).trans h2
end
end Go.Proofs.Ytgnjhaomlbkgcaa

namespace Go.Proofs.Ytgnjhaomlbkgcaa
open Go Go.RowKit
set_option linter.unusedVariables false
set_option linter.unusedSimpArgs false

/-- The regions of a number in a text. -/
def regsOf (n : Nat) : Code → List Code
  | .region i ops d => if i = n then [.region i ops d] else []
  | .loop c => regsOf n c
  | .seq a b => regsOf n a ++ regsOf n b
  | .block _ c => regsOf n c
  | .scope c => regsOf n c
  | .cond _ a b => regsOf n a ++ regsOf n b
  | _ => []
noncomputable def decReg13 : Code := ((Try.f12.body.map (regsOf 13)).getD []).getD 0 .skip

set_option maxRecDepth 1000000 in
set_option maxHeartbeats 4000000 in
theorem dec_r13y {rb ro len rc a b : Nat} {x y : Int} (w : World) (Q : Exit → Act → World → Prop) (c0 c1 c2 c3 c5 c6 c7 c8 c13 c14 c15 c16 c17 c18 c19 c20 c21 c22 c23 c24 c25 c26 c27 c28 c29 c30 c31 c32 c33 c34 c35 c36 c37 c38 c39 c40 c41 c42 c43 c44 c45 c46 c47 c48 c49 c50 c51 c52 c53 c54 c55 c56 c57 c58 c59 c60 c61 c62 c63 c64 c65 c66 c67 c68 c69 c70 c71 c72 c73 c74 c75 c76 c77 c78 c79 c80 c81 c82 c83 c84 c85 c86 c87 c88 c89 c90 c91 c92 c93 c94 c95 c96 c97 c98 c99 c100 c101 c102 c103 c104 c105 c106 c107 c108 c109 c110 c111 c112 c113 c114 c115 c116 c117 c118 c119 c120 c121 c122 c123 c124 c125 c126 c127 c128 c129 c130 c131 c132 c133 c134 c135 c136 c137 c138 c139 c140 c141 c142 c143 c144 c145 c146 c147 c148 c149 c150 c151 c152 c153 c154 c155 c156 c157 c158 c159 c160 c161 c162 c163 c164 c165 c166 c167 c168 c169 c170 c171 c172 c173 c174 c175 c176 c177 c178 c179 c180 c181 c182 c183 c184 c185 c186 c187 c188 c189 c190 c191 c192 c193 c194 c195 c196 c197 c198 c199 c200 c201 c202 c203 c204 c205 c206 c207 c208 c209 c210 c211 c212 c213 c214 c215 c216 c217 c218 c219 c220 c221 c222 c223 c224 c225 : Value) (ds : List Deferred)
    (fr : ∀ w', Ext w w' → w'.cell? ⟨rb, ro + a, none⟩ = some (.int .i64 x) ∧ w'.cell? ⟨rb, ro + b, none⟩ = some (.int .i64 y)) (hr1 : (a : Int) < (len : Int)) (hr2 : (b : Int) < (len : Int)) (hd : decide (y ≤ x) = false) (hnb : ((a : Int) == (b : Int)) = false)
    (hk : ∀ (y80 y81 y82 y83 y84 y85 y86 y87 y88 y89 y90 y91 y92 y93 y94 y95 y96 y97 y98 y99 y100 y101 y102 y103 y104 y105 y106 y107 y108 y109 y110 y111 y112 y113 y114 y115 y116 y117 y118 y119 : Value) (w' : World), Ext w w' → Q .normal ⟨(List.toArray (c0 :: c1 :: c2 :: c3 :: (.slice (some ⟨rb, ro, none⟩) len rc) :: c5 :: c6 :: c7 :: c8 :: (.int .i64 (a : Int)) :: (.int .i64 (b : Int)) :: (.int .i64 1) :: (.int .i64 0) :: c13 :: c14 :: c15 :: c16 :: c17 :: c18 :: c19 :: c20 :: c21 :: c22 :: c23 :: c24 :: c25 :: c26 :: c27 :: c28 :: c29 :: c30 :: c31 :: c32 :: c33 :: c34 :: c35 :: c36 :: c37 :: c38 :: c39 :: c40 :: c41 :: c42 :: c43 :: c44 :: c45 :: c46 :: c47 :: c48 :: c49 :: c50 :: c51 :: c52 :: c53 :: c54 :: c55 :: c56 :: c57 :: c58 :: c59 :: c60 :: c61 :: c62 :: c63 :: c64 :: c65 :: c66 :: c67 :: c68 :: c69 :: c70 :: c71 :: c72 :: c73 :: c74 :: c75 :: c76 :: c77 :: c78 :: c79 :: y80 :: y81 :: y82 :: y83 :: y84 :: y85 :: y86 :: y87 :: y88 :: y89 :: y90 :: y91 :: y92 :: y93 :: y94 :: y95 :: y96 :: y97 :: y98 :: y99 :: y100 :: y101 :: y102 :: y103 :: y104 :: y105 :: y106 :: y107 :: y108 :: y109 :: y110 :: y111 :: y112 :: y113 :: y114 :: y115 :: y116 :: y117 :: y118 :: y119 :: (.bool false) :: c121 :: c122 :: c123 :: c124 :: c125 :: c126 :: c127 :: c128 :: c129 :: c130 :: c131 :: c132 :: c133 :: c134 :: c135 :: c136 :: c137 :: c138 :: c139 :: c140 :: c141 :: c142 :: c143 :: c144 :: c145 :: c146 :: c147 :: c148 :: c149 :: c150 :: c151 :: c152 :: c153 :: c154 :: c155 :: c156 :: c157 :: c158 :: c159 :: c160 :: c161 :: c162 :: c163 :: c164 :: c165 :: c166 :: c167 :: c168 :: c169 :: c170 :: c171 :: c172 :: c173 :: c174 :: c175 :: c176 :: c177 :: c178 :: c179 :: c180 :: c181 :: c182 :: c183 :: c184 :: c185 :: c186 :: c187 :: c188 :: c189 :: c190 :: c191 :: c192 :: c193 :: c194 :: c195 :: c196 :: c197 :: c198 :: c199 :: c200 :: c201 :: c202 :: c203 :: c204 :: c205 :: c206 :: c207 :: c208 :: c209 :: c210 :: c211 :: c212 :: c213 :: c214 :: c215 :: c216 :: c217 :: c218 :: c219 :: c220 :: c221 :: c222 :: c223 :: c224 :: c225 :: [])), ds⟩ w') :
    Code.wp Try.prog decReg13 Q ⟨(List.toArray (c0 :: c1 :: c2 :: c3 :: (.slice (some ⟨rb, ro, none⟩) len rc) :: c5 :: c6 :: c7 :: c8 :: (.int .i64 (a : Int)) :: (.int .i64 (b : Int)) :: (.int .i64 1) :: (.int .i64 0) :: c13 :: c14 :: c15 :: c16 :: c17 :: c18 :: c19 :: c20 :: c21 :: c22 :: c23 :: c24 :: c25 :: c26 :: c27 :: c28 :: c29 :: c30 :: c31 :: c32 :: c33 :: c34 :: c35 :: c36 :: c37 :: c38 :: c39 :: c40 :: c41 :: c42 :: c43 :: c44 :: c45 :: c46 :: c47 :: c48 :: c49 :: c50 :: c51 :: c52 :: c53 :: c54 :: c55 :: c56 :: c57 :: c58 :: c59 :: c60 :: c61 :: c62 :: c63 :: c64 :: c65 :: c66 :: c67 :: c68 :: c69 :: c70 :: c71 :: c72 :: c73 :: c74 :: c75 :: c76 :: c77 :: c78 :: c79 :: c80 :: c81 :: c82 :: c83 :: c84 :: c85 :: c86 :: c87 :: c88 :: c89 :: c90 :: c91 :: c92 :: c93 :: c94 :: c95 :: c96 :: c97 :: c98 :: c99 :: c100 :: c101 :: c102 :: c103 :: c104 :: c105 :: c106 :: c107 :: c108 :: c109 :: c110 :: c111 :: c112 :: c113 :: c114 :: c115 :: c116 :: c117 :: c118 :: c119 :: c120 :: c121 :: c122 :: c123 :: c124 :: c125 :: c126 :: c127 :: c128 :: c129 :: c130 :: c131 :: c132 :: c133 :: c134 :: c135 :: c136 :: c137 :: c138 :: c139 :: c140 :: c141 :: c142 :: c143 :: c144 :: c145 :: c146 :: c147 :: c148 :: c149 :: c150 :: c151 :: c152 :: c153 :: c154 :: c155 :: c156 :: c157 :: c158 :: c159 :: c160 :: c161 :: c162 :: c163 :: c164 :: c165 :: c166 :: c167 :: c168 :: c169 :: c170 :: c171 :: c172 :: c173 :: c174 :: c175 :: c176 :: c177 :: c178 :: c179 :: c180 :: c181 :: c182 :: c183 :: c184 :: c185 :: c186 :: c187 :: c188 :: c189 :: c190 :: c191 :: c192 :: c193 :: c194 :: c195 :: c196 :: c197 :: c198 :: c199 :: c200 :: c201 :: c202 :: c203 :: c204 :: c205 :: c206 :: c207 :: c208 :: c209 :: c210 :: c211 :: c212 :: c213 :: c214 :: c215 :: c216 :: c217 :: c218 :: c219 :: c220 :: c221 :: c222 :: c223 :: c224 :: c225 :: [])), ds⟩ w := by
  have FR := hid fr
  have HK := hid hk
  clear fr hk
  conv => arg 2; whnf
  refine wp_region_shut Ext (fun w' => Ext w w') (fun _ => none) (by kernel_rfl) (by kernel_rfl) (fun _ _ h k => h.trans k) (fun i R h => by cases h) (Ext.drew (Ext.refl w)) ?_
  refine wM_val ?ua0 rfl rfl Ext.refl (fun w' hD => ?ha0) (fun pha0 => ?na0)
  case ha0 =>
    obtain ⟨d0, d1⟩ := FR.out _ hD.1
    go_simp; rfl
  simp only [Act.put, List.setIfInBounds_toArray, List.set_cons_succ, List.set_cons_zero, Nat.reduceAdd]
  refine wM_val ?ua1 rfl rfl Ext.refl (fun w' hD => ?ha1) (fun pha1 => ?na1)
  case ha1 =>
    obtain ⟨d0, d1⟩ := FR.out _ hD.1
    go_simp; rfl
  simp only [Act.put, List.setIfInBounds_toArray, List.set_cons_succ, List.set_cons_zero, Nat.reduceAdd]
  refine wM_val ?ua2 rfl rfl Ext.refl (fun w' hD => ?ha2) (fun pha2 => ?na2)
  case ha2 =>
    obtain ⟨d0, d1⟩ := FR.out _ hD.1
    go_simp; rfl
  simp only [Act.put, List.setIfInBounds_toArray, List.set_cons_succ, List.set_cons_zero, Nat.reduceAdd]
  refine wM_val ?ua3 rfl rfl Ext.refl (fun w' hD => ?ha3) (fun pha3 => ?na3)
  case ha3 =>
    obtain ⟨d0, d1⟩ := FR.out _ hD.1
    go_simp; rfl
  simp only [Act.put, List.setIfInBounds_toArray, List.set_cons_succ, List.set_cons_zero, Nat.reduceAdd]
  refine wM_val ?ua4 rfl rfl Ext.refl (fun w' hD => ?ha4) (fun pha4 => ?na4)
  case ha4 =>
    obtain ⟨d0, d1⟩ := FR.out _ hD.1
    go_simp; rfl
  simp only [Act.put, List.setIfInBounds_toArray, List.set_cons_succ, List.set_cons_zero, Nat.reduceAdd]
  refine wM_val ?ua5 rfl rfl Ext.refl (fun w' hD => ?ha5) (fun pha5 => ?na5)
  case ha5 =>
    obtain ⟨d0, d1⟩ := FR.out _ hD.1
    go_simp; rfl
  simp only [Act.put, List.setIfInBounds_toArray, List.set_cons_succ, List.set_cons_zero, Nat.reduceAdd]
  refine wM_val ?ua6 rfl rfl Ext.refl (fun w' hD => ?ha6) (fun pha6 => ?na6)
  case ha6 =>
    obtain ⟨d0, d1⟩ := FR.out _ hD.1
    go_simp; rfl
  simp only [Act.put, List.setIfInBounds_toArray, List.set_cons_succ, List.set_cons_zero, Nat.reduceAdd]
  refine wM_val ?ua7 rfl rfl Ext.refl (fun w' hD => ?ha7) (fun pha7 => ?na7)
  case ha7 =>
    obtain ⟨d0, d1⟩ := FR.out _ hD.1
    go_simp; rfl
  simp only [Act.put, List.setIfInBounds_toArray, List.set_cons_succ, List.set_cons_zero, Nat.reduceAdd]
  refine wM_val ?ua8 rfl rfl Ext.refl (fun w' hD => ?ha8) (fun pha8 => ?na8)
  case ha8 =>
    obtain ⟨d0, d1⟩ := FR.out _ hD.1
    go_simp; rfl
  simp only [Act.put, List.setIfInBounds_toArray, List.set_cons_succ, List.set_cons_zero, Nat.reduceAdd]
  refine wM_val ?ua9 rfl rfl Ext.refl (fun w' hD => ?ha9) (fun pha9 => ?na9)
  case ha9 =>
    obtain ⟨d0, d1⟩ := FR.out _ hD.1
    go_simp; rfl
  simp only [Act.put, List.setIfInBounds_toArray, List.set_cons_succ, List.set_cons_zero, Nat.reduceAdd]
  refine wM_val ?ua10 rfl rfl Ext.refl (fun w' hD => ?ha10) (fun pha10 => ?na10)
  case ha10 =>
    obtain ⟨d0, d1⟩ := FR.out _ hD.1
    go_simp; rfl
  simp only [Act.put, List.setIfInBounds_toArray, List.set_cons_succ, List.set_cons_zero, Nat.reduceAdd]
  refine wM_val ?ua11 rfl rfl Ext.refl (fun w' hD => ?ha11) (fun pha11 => ?na11)
  case ha11 =>
    obtain ⟨d0, d1⟩ := FR.out _ hD.1
    go_simp; rfl
  simp only [Act.put, List.setIfInBounds_toArray, List.set_cons_succ, List.set_cons_zero, Nat.reduceAdd]
  refine wM_val ?ua12 rfl rfl Ext.refl (fun w' hD => ?ha12) (fun pha12 => ?na12)
  case ha12 =>
    obtain ⟨d0, d1⟩ := FR.out _ hD.1
    go_simp; rfl
  simp only [Act.put, List.setIfInBounds_toArray, List.set_cons_succ, List.set_cons_zero, Nat.reduceAdd]
  refine wM_val ?ua13 rfl rfl Ext.refl (fun w' hD => ?ha13) (fun pha13 => ?na13)
  case ha13 =>
    obtain ⟨d0, d1⟩ := FR.out _ hD.1
    go_simp; rfl
  simp only [Act.put, List.setIfInBounds_toArray, List.set_cons_succ, List.set_cons_zero, Nat.reduceAdd]
  refine wM_val ?ua14 rfl rfl Ext.refl (fun w' hD => ?ha14) (fun pha14 => ?na14)
  case ha14 =>
    obtain ⟨d0, d1⟩ := FR.out _ hD.1
    go_simp; rfl
  simp only [Act.put, List.setIfInBounds_toArray, List.set_cons_succ, List.set_cons_zero, Nat.reduceAdd]
  refine wM_val ?ua15 rfl rfl Ext.refl (fun w' hD => ?ha15) (fun pha15 => ?na15)
  case ha15 =>
    obtain ⟨d0, d1⟩ := FR.out _ hD.1
    go_simp; rfl
  simp only [Act.put, List.setIfInBounds_toArray, List.set_cons_succ, List.set_cons_zero, Nat.reduceAdd]
  refine wM_val ?ua16 rfl rfl Ext.refl (fun w' hD => ?ha16) (fun pha16 => ?na16)
  case ha16 =>
    obtain ⟨d0, d1⟩ := FR.out _ hD.1
    go_simp; rfl
  simp only [Act.put, List.setIfInBounds_toArray, List.set_cons_succ, List.set_cons_zero, Nat.reduceAdd]
  refine wM_val ?ua17 rfl rfl Ext.refl (fun w' hD => ?ha17) (fun pha17 => ?na17)
  case ha17 =>
    obtain ⟨d0, d1⟩ := FR.out _ hD.1
    go_simp; rfl
  simp only [Act.put, List.setIfInBounds_toArray, List.set_cons_succ, List.set_cons_zero, Nat.reduceAdd]
  refine wM_val ?ua18 rfl rfl Ext.refl (fun w' hD => ?ha18) (fun pha18 => ?na18)
  case ha18 =>
    obtain ⟨d0, d1⟩ := FR.out _ hD.1
    go_simp; rfl
  simp only [Act.put, List.setIfInBounds_toArray, List.set_cons_succ, List.set_cons_zero, Nat.reduceAdd]
  refine wM_val ?ua19 rfl rfl Ext.refl (fun w' hD => ?ha19) (fun pha19 => ?na19)
  case ha19 =>
    obtain ⟨d0, d1⟩ := FR.out _ hD.1
    go_simp; rfl
  simp only [Act.put, List.setIfInBounds_toArray, List.set_cons_succ, List.set_cons_zero, Nat.reduceAdd]
  refine wM_val ?ua20 rfl rfl Ext.refl (fun w' hD => ?ha20) (fun pha20 => ?na20)
  case ha20 =>
    obtain ⟨d0, d1⟩ := FR.out _ hD.1
    go_simp; rfl
  simp only [Act.put, List.setIfInBounds_toArray, List.set_cons_succ, List.set_cons_zero, Nat.reduceAdd]
  refine wM_skip rfl ?_
  simp only [Act.put, List.setIfInBounds_toArray, List.set_cons_succ, List.set_cons_zero, Nat.reduceAdd]
  refine wM_skip rfl ?_
  simp only [Act.put, List.setIfInBounds_toArray, List.set_cons_succ, List.set_cons_zero, Nat.reduceAdd]
  refine wM_skip rfl ?_
  simp only [Act.put, List.setIfInBounds_toArray, List.set_cons_succ, List.set_cons_zero, Nat.reduceAdd]
  refine wM_skip rfl ?_
  simp only [Act.put, List.setIfInBounds_toArray, List.set_cons_succ, List.set_cons_zero, Nat.reduceAdd]
  refine wM_skip rfl ?_
  simp only [Act.put, List.setIfInBounds_toArray, List.set_cons_succ, List.set_cons_zero, Nat.reduceAdd]
  refine wM_skip rfl ?_
  simp only [Act.put, List.setIfInBounds_toArray, List.set_cons_succ, List.set_cons_zero, Nat.reduceAdd]
  refine wM_skip rfl ?_
  simp only [Act.put, List.setIfInBounds_toArray, List.set_cons_succ, List.set_cons_zero, Nat.reduceAdd]
  refine wM_skip rfl ?_
  simp only [Act.put, List.setIfInBounds_toArray, List.set_cons_succ, List.set_cons_zero, Nat.reduceAdd]
  refine wM_skip rfl ?_
  simp only [Act.put, List.setIfInBounds_toArray, List.set_cons_succ, List.set_cons_zero, Nat.reduceAdd]
  refine wM_val ?ua30 rfl rfl Ext.refl (fun w' hD => ?ha30) (fun pha30 => ?na30)
  case ha30 =>
    obtain ⟨d0, d1⟩ := FR.out _ hD.1
    go_simp; rfl
  simp only [Act.put, List.setIfInBounds_toArray, List.set_cons_succ, List.set_cons_zero, Nat.reduceAdd]
  refine wM_val ?ua31 rfl rfl Ext.refl (fun w' hD => ?ha31) (fun pha31 => ?na31)
  case ha31 =>
    obtain ⟨d0, d1⟩ := FR.out _ hD.1
    go_simp; rfl
  simp only [Act.put, List.setIfInBounds_toArray, List.set_cons_succ, List.set_cons_zero, Nat.reduceAdd]
  refine wM_val ?ua32 rfl rfl Ext.refl (fun w' hD => ?ha32) (fun pha32 => ?na32)
  case ha32 =>
    obtain ⟨d0, d1⟩ := FR.out _ hD.1
    go_simp; rfl
  simp only [Act.put, List.setIfInBounds_toArray, List.set_cons_succ, List.set_cons_zero, Nat.reduceAdd]
  refine wM_val ?ua33 rfl rfl Ext.refl (fun w' hD => ?ha33) (fun pha33 => ?na33)
  case ha33 =>
    obtain ⟨d0, d1⟩ := FR.out _ hD.1
    go_simp; rfl
  simp only [Act.put, List.setIfInBounds_toArray, List.set_cons_succ, List.set_cons_zero, Nat.reduceAdd]
  refine wM_val ?ua34 rfl rfl Ext.refl (fun w' hD => ?ha34) (fun pha34 => ?na34)
  case ha34 =>
    obtain ⟨d0, d1⟩ := FR.out _ hD.1
    go_simp; rfl
  simp only [Act.put, List.setIfInBounds_toArray, List.set_cons_succ, List.set_cons_zero, Nat.reduceAdd]
  refine wM_val ?ua35 rfl rfl Ext.refl (fun w' hD => ?ha35) (fun pha35 => ?na35)
  case ha35 =>
    obtain ⟨d0, d1⟩ := FR.out _ hD.1
    go_simp; rfl
  simp only [Act.put, List.setIfInBounds_toArray, List.set_cons_succ, List.set_cons_zero, Nat.reduceAdd]
  refine wM_val ?ua36 rfl rfl Ext.refl (fun w' hD => ?ha36) (fun pha36 => ?na36)
  case ha36 =>
    obtain ⟨d0, d1⟩ := FR.out _ hD.1
    go_simp; rfl
  simp only [Act.put, List.setIfInBounds_toArray, List.set_cons_succ, List.set_cons_zero, Nat.reduceAdd]
  refine wM_skip rfl ?_
  simp only [Act.put, List.setIfInBounds_toArray, List.set_cons_succ, List.set_cons_zero, Nat.reduceAdd]
  refine wM_skip rfl ?_
  simp only [Act.put, List.setIfInBounds_toArray, List.set_cons_succ, List.set_cons_zero, Nat.reduceAdd]
  refine wM_val ?ua39 rfl rfl Ext.refl (fun w' hD => ?ha39) (fun pha39 => ?na39)
  case ha39 =>
    obtain ⟨d0, d1⟩ := FR.out _ hD.1
    go_simp; rfl
  simp only [Act.put, List.setIfInBounds_toArray, List.set_cons_succ, List.set_cons_zero, Nat.reduceAdd]
  refine wM_val ?ua40 rfl rfl Ext.refl (fun w' hD => ?ha40) (fun pha40 => ?na40)
  case ha40 =>
    obtain ⟨d0, d1⟩ := FR.out _ hD.1
    go_simp; rfl
  simp only [Act.put, List.setIfInBounds_toArray, List.set_cons_succ, List.set_cons_zero, Nat.reduceAdd]
  refine wM_nil ?_
  intro w9 hw9 hF9
  exact HK.out _ _ _ _ _ _ _ _ _ _ _ _ _ _ _ _ _ _ _ _ _ _ _ _ _ _ _ _ _ _ _ _ _ _ _ _ _ _ _ _ w9 hw9

set_option maxRecDepth 1000000 in
set_option maxHeartbeats 4000000 in
theorem dec_r13e {rb ro len rc a b : Nat} {x y : Int} (w : World) (Q : Exit → Act → World → Prop) (c0 c1 c2 c3 c5 c6 c7 c8 c13 c14 c15 c16 c17 c18 c19 c20 c21 c22 c23 c24 c25 c26 c27 c28 c29 c30 c31 c32 c33 c34 c35 c36 c37 c38 c39 c40 c41 c42 c43 c44 c45 c46 c47 c48 c49 c50 c51 c52 c53 c54 c55 c56 c57 c58 c59 c60 c61 c62 c63 c64 c65 c66 c67 c68 c69 c70 c71 c72 c73 c74 c75 c76 c77 c78 c79 c80 c81 c82 c83 c84 c85 c86 c87 c88 c89 c90 c91 c92 c93 c94 c95 c96 c97 c98 c99 c100 c101 c102 c103 c104 c105 c106 c107 c108 c109 c110 c111 c112 c113 c114 c115 c116 c117 c118 c119 c120 c121 c122 c123 c124 c125 c126 c127 c128 c129 c130 c131 c132 c133 c134 c135 c136 c137 c138 c139 c140 c141 c142 c143 c144 c145 c146 c147 c148 c149 c150 c151 c152 c153 c154 c155 c156 c157 c158 c159 c160 c161 c162 c163 c164 c165 c166 c167 c168 c169 c170 c171 c172 c173 c174 c175 c176 c177 c178 c179 c180 c181 c182 c183 c184 c185 c186 c187 c188 c189 c190 c191 c192 c193 c194 c195 c196 c197 c198 c199 c200 c201 c202 c203 c204 c205 c206 c207 c208 c209 c210 c211 c212 c213 c214 c215 c216 c217 c218 c219 c220 c221 c222 c223 c224 c225 : Value) (ds : List Deferred)
    (fr : ∀ w', Ext w w' → w'.cell? ⟨rb, ro + a, none⟩ = some (.int .i64 x) ∧ w'.cell? ⟨rb, ro + a, none⟩ = some (.int .i64 x)) (hr1 : (a : Int) < (len : Int)) (hr2 : (a : Int) < (len : Int)) (hd : decide (x < x) = false)
    (hk : ∀ (y80 y81 y82 y83 y84 y85 y86 y87 y88 y89 y90 y91 y92 y93 y94 y95 y96 y97 y98 y99 y100 y101 y102 y103 y104 y105 y106 y107 y108 y109 y110 y111 y112 y113 y114 y115 y116 y117 y118 y119 : Value) (w' : World), Ext w w' → Q .normal ⟨(List.toArray (c0 :: c1 :: c2 :: c3 :: (.slice (some ⟨rb, ro, none⟩) len rc) :: c5 :: c6 :: c7 :: c8 :: (.int .i64 (a : Int)) :: (.int .i64 (a : Int)) :: (.int .i64 2) :: (.int .i64 0) :: c13 :: c14 :: c15 :: c16 :: c17 :: c18 :: c19 :: c20 :: c21 :: c22 :: c23 :: c24 :: c25 :: c26 :: c27 :: c28 :: c29 :: c30 :: c31 :: c32 :: c33 :: c34 :: c35 :: c36 :: c37 :: c38 :: c39 :: c40 :: c41 :: c42 :: c43 :: c44 :: c45 :: c46 :: c47 :: c48 :: c49 :: c50 :: c51 :: c52 :: c53 :: c54 :: c55 :: c56 :: c57 :: c58 :: c59 :: c60 :: c61 :: c62 :: c63 :: c64 :: c65 :: c66 :: c67 :: c68 :: c69 :: c70 :: c71 :: c72 :: c73 :: c74 :: c75 :: c76 :: c77 :: c78 :: c79 :: y80 :: y81 :: y82 :: y83 :: y84 :: y85 :: y86 :: y87 :: y88 :: y89 :: y90 :: y91 :: y92 :: y93 :: y94 :: y95 :: y96 :: y97 :: y98 :: y99 :: y100 :: y101 :: y102 :: y103 :: y104 :: y105 :: y106 :: y107 :: y108 :: y109 :: y110 :: y111 :: y112 :: y113 :: y114 :: y115 :: y116 :: y117 :: y118 :: y119 :: (.bool false) :: c121 :: c122 :: c123 :: c124 :: c125 :: c126 :: c127 :: c128 :: c129 :: c130 :: c131 :: c132 :: c133 :: c134 :: c135 :: c136 :: c137 :: c138 :: c139 :: c140 :: c141 :: c142 :: c143 :: c144 :: c145 :: c146 :: c147 :: c148 :: c149 :: c150 :: c151 :: c152 :: c153 :: c154 :: c155 :: c156 :: c157 :: c158 :: c159 :: c160 :: c161 :: c162 :: c163 :: c164 :: c165 :: c166 :: c167 :: c168 :: c169 :: c170 :: c171 :: c172 :: c173 :: c174 :: c175 :: c176 :: c177 :: c178 :: c179 :: c180 :: c181 :: c182 :: c183 :: c184 :: c185 :: c186 :: c187 :: c188 :: c189 :: c190 :: c191 :: c192 :: c193 :: c194 :: c195 :: c196 :: c197 :: c198 :: c199 :: c200 :: c201 :: c202 :: c203 :: c204 :: c205 :: c206 :: c207 :: c208 :: c209 :: c210 :: c211 :: c212 :: c213 :: c214 :: c215 :: c216 :: c217 :: c218 :: c219 :: c220 :: c221 :: c222 :: c223 :: c224 :: c225 :: [])), ds⟩ w') :
    Code.wp Try.prog decReg13 Q ⟨(List.toArray (c0 :: c1 :: c2 :: c3 :: (.slice (some ⟨rb, ro, none⟩) len rc) :: c5 :: c6 :: c7 :: c8 :: (.int .i64 (a : Int)) :: (.int .i64 (a : Int)) :: (.int .i64 2) :: (.int .i64 0) :: c13 :: c14 :: c15 :: c16 :: c17 :: c18 :: c19 :: c20 :: c21 :: c22 :: c23 :: c24 :: c25 :: c26 :: c27 :: c28 :: c29 :: c30 :: c31 :: c32 :: c33 :: c34 :: c35 :: c36 :: c37 :: c38 :: c39 :: c40 :: c41 :: c42 :: c43 :: c44 :: c45 :: c46 :: c47 :: c48 :: c49 :: c50 :: c51 :: c52 :: c53 :: c54 :: c55 :: c56 :: c57 :: c58 :: c59 :: c60 :: c61 :: c62 :: c63 :: c64 :: c65 :: c66 :: c67 :: c68 :: c69 :: c70 :: c71 :: c72 :: c73 :: c74 :: c75 :: c76 :: c77 :: c78 :: c79 :: c80 :: c81 :: c82 :: c83 :: c84 :: c85 :: c86 :: c87 :: c88 :: c89 :: c90 :: c91 :: c92 :: c93 :: c94 :: c95 :: c96 :: c97 :: c98 :: c99 :: c100 :: c101 :: c102 :: c103 :: c104 :: c105 :: c106 :: c107 :: c108 :: c109 :: c110 :: c111 :: c112 :: c113 :: c114 :: c115 :: c116 :: c117 :: c118 :: c119 :: c120 :: c121 :: c122 :: c123 :: c124 :: c125 :: c126 :: c127 :: c128 :: c129 :: c130 :: c131 :: c132 :: c133 :: c134 :: c135 :: c136 :: c137 :: c138 :: c139 :: c140 :: c141 :: c142 :: c143 :: c144 :: c145 :: c146 :: c147 :: c148 :: c149 :: c150 :: c151 :: c152 :: c153 :: c154 :: c155 :: c156 :: c157 :: c158 :: c159 :: c160 :: c161 :: c162 :: c163 :: c164 :: c165 :: c166 :: c167 :: c168 :: c169 :: c170 :: c171 :: c172 :: c173 :: c174 :: c175 :: c176 :: c177 :: c178 :: c179 :: c180 :: c181 :: c182 :: c183 :: c184 :: c185 :: c186 :: c187 :: c188 :: c189 :: c190 :: c191 :: c192 :: c193 :: c194 :: c195 :: c196 :: c197 :: c198 :: c199 :: c200 :: c201 :: c202 :: c203 :: c204 :: c205 :: c206 :: c207 :: c208 :: c209 :: c210 :: c211 :: c212 :: c213 :: c214 :: c215 :: c216 :: c217 :: c218 :: c219 :: c220 :: c221 :: c222 :: c223 :: c224 :: c225 :: [])), ds⟩ w := by
  have FR := hid fr
  have HK := hid hk
  clear fr hk
  conv => arg 2; whnf
  refine wp_region_shut Ext (fun w' => Ext w w') (fun _ => none) (by kernel_rfl) (by kernel_rfl) (fun _ _ h k => h.trans k) (fun i R h => by cases h) (Ext.drew (Ext.refl w)) ?_
  refine wM_val ?ua0 rfl rfl Ext.refl (fun w' hD => ?ha0) (fun pha0 => ?na0)
  case ha0 =>
    obtain ⟨d0, d1⟩ := FR.out _ hD.1
    go_simp; rfl
  simp only [Act.put, List.setIfInBounds_toArray, List.set_cons_succ, List.set_cons_zero, Nat.reduceAdd]
  refine wM_val ?ua1 rfl rfl Ext.refl (fun w' hD => ?ha1) (fun pha1 => ?na1)
  case ha1 =>
    obtain ⟨d0, d1⟩ := FR.out _ hD.1
    go_simp; rfl
  simp only [Act.put, List.setIfInBounds_toArray, List.set_cons_succ, List.set_cons_zero, Nat.reduceAdd]
  refine wM_val ?ua2 rfl rfl Ext.refl (fun w' hD => ?ha2) (fun pha2 => ?na2)
  case ha2 =>
    obtain ⟨d0, d1⟩ := FR.out _ hD.1
    go_simp; rfl
  simp only [Act.put, List.setIfInBounds_toArray, List.set_cons_succ, List.set_cons_zero, Nat.reduceAdd]
  refine wM_val ?ua3 rfl rfl Ext.refl (fun w' hD => ?ha3) (fun pha3 => ?na3)
  case ha3 =>
    obtain ⟨d0, d1⟩ := FR.out _ hD.1
    go_simp; rfl
  simp only [Act.put, List.setIfInBounds_toArray, List.set_cons_succ, List.set_cons_zero, Nat.reduceAdd]
  refine wM_val ?ua4 rfl rfl Ext.refl (fun w' hD => ?ha4) (fun pha4 => ?na4)
  case ha4 =>
    obtain ⟨d0, d1⟩ := FR.out _ hD.1
    go_simp; rfl
  simp only [Act.put, List.setIfInBounds_toArray, List.set_cons_succ, List.set_cons_zero, Nat.reduceAdd]
  refine wM_val ?ua5 rfl rfl Ext.refl (fun w' hD => ?ha5) (fun pha5 => ?na5)
  case ha5 =>
    obtain ⟨d0, d1⟩ := FR.out _ hD.1
    go_simp; rfl
  simp only [Act.put, List.setIfInBounds_toArray, List.set_cons_succ, List.set_cons_zero, Nat.reduceAdd]
  refine wM_skip rfl ?_
  simp only [Act.put, List.setIfInBounds_toArray, List.set_cons_succ, List.set_cons_zero, Nat.reduceAdd]
  refine wM_skip rfl ?_
  simp only [Act.put, List.setIfInBounds_toArray, List.set_cons_succ, List.set_cons_zero, Nat.reduceAdd]
  refine wM_skip rfl ?_
  simp only [Act.put, List.setIfInBounds_toArray, List.set_cons_succ, List.set_cons_zero, Nat.reduceAdd]
  refine wM_skip rfl ?_
  simp only [Act.put, List.setIfInBounds_toArray, List.set_cons_succ, List.set_cons_zero, Nat.reduceAdd]
  refine wM_skip rfl ?_
  simp only [Act.put, List.setIfInBounds_toArray, List.set_cons_succ, List.set_cons_zero, Nat.reduceAdd]
  refine wM_skip rfl ?_
  simp only [Act.put, List.setIfInBounds_toArray, List.set_cons_succ, List.set_cons_zero, Nat.reduceAdd]
  refine wM_skip rfl ?_
  simp only [Act.put, List.setIfInBounds_toArray, List.set_cons_succ, List.set_cons_zero, Nat.reduceAdd]
  refine wM_skip rfl ?_
  simp only [Act.put, List.setIfInBounds_toArray, List.set_cons_succ, List.set_cons_zero, Nat.reduceAdd]
  refine wM_skip rfl ?_
  simp only [Act.put, List.setIfInBounds_toArray, List.set_cons_succ, List.set_cons_zero, Nat.reduceAdd]
  refine wM_val ?ua15 rfl rfl Ext.refl (fun w' hD => ?ha15) (fun pha15 => ?na15)
  case ha15 =>
    obtain ⟨d0, d1⟩ := FR.out _ hD.1
    go_simp; rfl
  simp only [Act.put, List.setIfInBounds_toArray, List.set_cons_succ, List.set_cons_zero, Nat.reduceAdd]
  refine wM_val ?ua16 rfl rfl Ext.refl (fun w' hD => ?ha16) (fun pha16 => ?na16)
  case ha16 =>
    obtain ⟨d0, d1⟩ := FR.out _ hD.1
    go_simp; rfl
  simp only [Act.put, List.setIfInBounds_toArray, List.set_cons_succ, List.set_cons_zero, Nat.reduceAdd]
  refine wM_val ?ua17 rfl rfl Ext.refl (fun w' hD => ?ha17) (fun pha17 => ?na17)
  case ha17 =>
    obtain ⟨d0, d1⟩ := FR.out _ hD.1
    go_simp; rfl
  simp only [Act.put, List.setIfInBounds_toArray, List.set_cons_succ, List.set_cons_zero, Nat.reduceAdd]
  refine wM_val ?ua18 rfl rfl Ext.refl (fun w' hD => ?ha18) (fun pha18 => ?na18)
  case ha18 =>
    obtain ⟨d0, d1⟩ := FR.out _ hD.1
    go_simp; rfl
  simp only [Act.put, List.setIfInBounds_toArray, List.set_cons_succ, List.set_cons_zero, Nat.reduceAdd]
  refine wM_val ?ua19 rfl rfl Ext.refl (fun w' hD => ?ha19) (fun pha19 => ?na19)
  case ha19 =>
    obtain ⟨d0, d1⟩ := FR.out _ hD.1
    go_simp; rfl
  simp only [Act.put, List.setIfInBounds_toArray, List.set_cons_succ, List.set_cons_zero, Nat.reduceAdd]
  refine wM_val ?ua20 rfl rfl Ext.refl (fun w' hD => ?ha20) (fun pha20 => ?na20)
  case ha20 =>
    obtain ⟨d0, d1⟩ := FR.out _ hD.1
    go_simp; rfl
  simp only [Act.put, List.setIfInBounds_toArray, List.set_cons_succ, List.set_cons_zero, Nat.reduceAdd]
  refine wM_val ?ua21 rfl rfl Ext.refl (fun w' hD => ?ha21) (fun pha21 => ?na21)
  case ha21 =>
    obtain ⟨d0, d1⟩ := FR.out _ hD.1
    go_simp; rfl
  simp only [Act.put, List.setIfInBounds_toArray, List.set_cons_succ, List.set_cons_zero, Nat.reduceAdd]
  refine wM_val ?ua22 rfl rfl Ext.refl (fun w' hD => ?ha22) (fun pha22 => ?na22)
  case ha22 =>
    obtain ⟨d0, d1⟩ := FR.out _ hD.1
    go_simp; rfl
  simp only [Act.put, List.setIfInBounds_toArray, List.set_cons_succ, List.set_cons_zero, Nat.reduceAdd]
  refine wM_val ?ua23 rfl rfl Ext.refl (fun w' hD => ?ha23) (fun pha23 => ?na23)
  case ha23 =>
    obtain ⟨d0, d1⟩ := FR.out _ hD.1
    go_simp; rfl
  simp only [Act.put, List.setIfInBounds_toArray, List.set_cons_succ, List.set_cons_zero, Nat.reduceAdd]
  refine wM_val ?ua24 rfl rfl Ext.refl (fun w' hD => ?ha24) (fun pha24 => ?na24)
  case ha24 =>
    obtain ⟨d0, d1⟩ := FR.out _ hD.1
    go_simp; rfl
  simp only [Act.put, List.setIfInBounds_toArray, List.set_cons_succ, List.set_cons_zero, Nat.reduceAdd]
  refine wM_val ?ua25 rfl rfl Ext.refl (fun w' hD => ?ha25) (fun pha25 => ?na25)
  case ha25 =>
    obtain ⟨d0, d1⟩ := FR.out _ hD.1
    go_simp; rfl
  simp only [Act.put, List.setIfInBounds_toArray, List.set_cons_succ, List.set_cons_zero, Nat.reduceAdd]
  refine wM_val ?ua26 rfl rfl Ext.refl (fun w' hD => ?ha26) (fun pha26 => ?na26)
  case ha26 =>
    obtain ⟨d0, d1⟩ := FR.out _ hD.1
    go_simp; rfl
  simp only [Act.put, List.setIfInBounds_toArray, List.set_cons_succ, List.set_cons_zero, Nat.reduceAdd]
  refine wM_val ?ua27 rfl rfl Ext.refl (fun w' hD => ?ha27) (fun pha27 => ?na27)
  case ha27 =>
    obtain ⟨d0, d1⟩ := FR.out _ hD.1
    go_simp; rfl
  simp only [Act.put, List.setIfInBounds_toArray, List.set_cons_succ, List.set_cons_zero, Nat.reduceAdd]
  refine wM_val ?ua28 rfl rfl Ext.refl (fun w' hD => ?ha28) (fun pha28 => ?na28)
  case ha28 =>
    obtain ⟨d0, d1⟩ := FR.out _ hD.1
    go_simp; rfl
  simp only [Act.put, List.setIfInBounds_toArray, List.set_cons_succ, List.set_cons_zero, Nat.reduceAdd]
  refine wM_val ?ua29 rfl rfl Ext.refl (fun w' hD => ?ha29) (fun pha29 => ?na29)
  case ha29 =>
    obtain ⟨d0, d1⟩ := FR.out _ hD.1
    go_simp; rfl
  simp only [Act.put, List.setIfInBounds_toArray, List.set_cons_succ, List.set_cons_zero, Nat.reduceAdd]
  refine wM_val ?ua30 rfl rfl Ext.refl (fun w' hD => ?ha30) (fun pha30 => ?na30)
  case ha30 =>
    obtain ⟨d0, d1⟩ := FR.out _ hD.1
    go_simp; rfl
  simp only [Act.put, List.setIfInBounds_toArray, List.set_cons_succ, List.set_cons_zero, Nat.reduceAdd]
  refine wM_val ?ua31 rfl rfl Ext.refl (fun w' hD => ?ha31) (fun pha31 => ?na31)
  case ha31 =>
    obtain ⟨d0, d1⟩ := FR.out _ hD.1
    go_simp; rfl
  simp only [Act.put, List.setIfInBounds_toArray, List.set_cons_succ, List.set_cons_zero, Nat.reduceAdd]
  refine wM_val ?ua32 rfl rfl Ext.refl (fun w' hD => ?ha32) (fun pha32 => ?na32)
  case ha32 =>
    obtain ⟨d0, d1⟩ := FR.out _ hD.1
    go_simp; rfl
  simp only [Act.put, List.setIfInBounds_toArray, List.set_cons_succ, List.set_cons_zero, Nat.reduceAdd]
  refine wM_val ?ua33 rfl rfl Ext.refl (fun w' hD => ?ha33) (fun pha33 => ?na33)
  case ha33 =>
    obtain ⟨d0, d1⟩ := FR.out _ hD.1
    go_simp; rfl
  simp only [Act.put, List.setIfInBounds_toArray, List.set_cons_succ, List.set_cons_zero, Nat.reduceAdd]
  refine wM_val ?ua34 rfl rfl Ext.refl (fun w' hD => ?ha34) (fun pha34 => ?na34)
  case ha34 =>
    obtain ⟨d0, d1⟩ := FR.out _ hD.1
    go_simp; rfl
  simp only [Act.put, List.setIfInBounds_toArray, List.set_cons_succ, List.set_cons_zero, Nat.reduceAdd]
  refine wM_val ?ua35 rfl rfl Ext.refl (fun w' hD => ?ha35) (fun pha35 => ?na35)
  case ha35 =>
    obtain ⟨d0, d1⟩ := FR.out _ hD.1
    go_simp; rfl
  simp only [Act.put, List.setIfInBounds_toArray, List.set_cons_succ, List.set_cons_zero, Nat.reduceAdd]
  refine wM_val ?ua36 rfl rfl Ext.refl (fun w' hD => ?ha36) (fun pha36 => ?na36)
  case ha36 =>
    obtain ⟨d0, d1⟩ := FR.out _ hD.1
    go_simp; rfl
  simp only [Act.put, List.setIfInBounds_toArray, List.set_cons_succ, List.set_cons_zero, Nat.reduceAdd]
  refine wM_val ?ua37 rfl rfl Ext.refl (fun w' hD => ?ha37) (fun pha37 => ?na37)
  case ha37 =>
    obtain ⟨d0, d1⟩ := FR.out _ hD.1
    go_simp; rfl
  simp only [Act.put, List.setIfInBounds_toArray, List.set_cons_succ, List.set_cons_zero, Nat.reduceAdd]
  refine wM_val ?ua38 rfl rfl Ext.refl (fun w' hD => ?ha38) (fun pha38 => ?na38)
  case ha38 =>
    obtain ⟨d0, d1⟩ := FR.out _ hD.1
    go_simp; rfl
  simp only [Act.put, List.setIfInBounds_toArray, List.set_cons_succ, List.set_cons_zero, Nat.reduceAdd]
  refine wM_val ?ua39 rfl rfl Ext.refl (fun w' hD => ?ha39) (fun pha39 => ?na39)
  case ha39 =>
    obtain ⟨d0, d1⟩ := FR.out _ hD.1
    go_simp; rfl
  simp only [Act.put, List.setIfInBounds_toArray, List.set_cons_succ, List.set_cons_zero, Nat.reduceAdd]
  refine wM_val ?ua40 rfl rfl Ext.refl (fun w' hD => ?ha40) (fun pha40 => ?na40)
  case ha40 =>
    obtain ⟨d0, d1⟩ := FR.out _ hD.1
    go_simp; rfl
  simp only [Act.put, List.setIfInBounds_toArray, List.set_cons_succ, List.set_cons_zero, Nat.reduceAdd]
  refine wM_nil ?_
  intro w9 hw9 hF9
  exact HK.out _ _ _ _ _ _ _ _ _ _ _ _ _ _ _ _ _ _ _ _ _ _ _ _ _ _ _ _ _ _ _ _ _ _ _ _ _ _ _ _ w9 hw9

set_option maxRecDepth 1000000 in
set_option maxHeartbeats 4000000 in
theorem dec_r13n {rb ro len rc a b : Nat} {x y : Int} (w : World) (Q : Exit → Act → World → Prop) (c0 c1 c2 c3 c5 c6 c7 c8 c13 c14 c15 c16 c17 c18 c19 c20 c21 c22 c23 c24 c25 c26 c27 c28 c29 c30 c31 c32 c33 c34 c35 c36 c37 c38 c39 c40 c41 c42 c43 c44 c45 c46 c47 c48 c49 c50 c51 c52 c53 c54 c55 c56 c57 c58 c59 c60 c61 c62 c63 c64 c65 c66 c67 c68 c69 c70 c71 c72 c73 c74 c75 c76 c77 c78 c79 c80 c81 c82 c83 c84 c85 c86 c87 c88 c89 c90 c91 c92 c93 c94 c95 c96 c97 c98 c99 c100 c101 c102 c103 c104 c105 c106 c107 c108 c109 c110 c111 c112 c113 c114 c115 c116 c117 c118 c119 c120 c121 c122 c123 c124 c125 c126 c127 c128 c129 c130 c131 c132 c133 c134 c135 c136 c137 c138 c139 c140 c141 c142 c143 c144 c145 c146 c147 c148 c149 c150 c151 c152 c153 c154 c155 c156 c157 c158 c159 c160 c161 c162 c163 c164 c165 c166 c167 c168 c169 c170 c171 c172 c173 c174 c175 c176 c177 c178 c179 c180 c181 c182 c183 c184 c185 c186 c187 c188 c189 c190 c191 c192 c193 c194 c195 c196 c197 c198 c199 c200 c201 c202 c203 c204 c205 c206 c207 c208 c209 c210 c211 c212 c213 c214 c215 c216 c217 c218 c219 c220 c221 c222 c223 c224 c225 : Value) (ds : List Deferred)
    (fr : ∀ w', Ext w w' → w'.cell? ⟨rb, ro + a, none⟩ = some (.int .i64 x) ∧ w'.cell? ⟨rb, ro + b, none⟩ = some (.int .i64 y)) (hr1 : (a : Int) < (len : Int)) (hr2 : (b : Int) < (len : Int)) (hd : decide (x < y) = false) (hnb : ((a : Int) == (b : Int)) = false)
    (hk : ∀ (y80 y81 y82 y83 y84 y85 y86 y87 y88 y89 y90 y91 y92 y93 y94 y95 y96 y97 y98 y99 y100 y101 y102 y103 y104 y105 y106 y107 y108 y109 y110 y111 y112 y113 y114 y115 y116 y117 y118 y119 : Value) (w' : World), Ext w w' → Q .normal ⟨(List.toArray (c0 :: c1 :: c2 :: c3 :: (.slice (some ⟨rb, ro, none⟩) len rc) :: c5 :: c6 :: c7 :: c8 :: (.int .i64 (a : Int)) :: (.int .i64 (b : Int)) :: (.int .i64 2) :: (.int .i64 0) :: c13 :: c14 :: c15 :: c16 :: c17 :: c18 :: c19 :: c20 :: c21 :: c22 :: c23 :: c24 :: c25 :: c26 :: c27 :: c28 :: c29 :: c30 :: c31 :: c32 :: c33 :: c34 :: c35 :: c36 :: c37 :: c38 :: c39 :: c40 :: c41 :: c42 :: c43 :: c44 :: c45 :: c46 :: c47 :: c48 :: c49 :: c50 :: c51 :: c52 :: c53 :: c54 :: c55 :: c56 :: c57 :: c58 :: c59 :: c60 :: c61 :: c62 :: c63 :: c64 :: c65 :: c66 :: c67 :: c68 :: c69 :: c70 :: c71 :: c72 :: c73 :: c74 :: c75 :: c76 :: c77 :: c78 :: c79 :: y80 :: y81 :: y82 :: y83 :: y84 :: y85 :: y86 :: y87 :: y88 :: y89 :: y90 :: y91 :: y92 :: y93 :: y94 :: y95 :: y96 :: y97 :: y98 :: y99 :: y100 :: y101 :: y102 :: y103 :: y104 :: y105 :: y106 :: y107 :: y108 :: y109 :: y110 :: y111 :: y112 :: y113 :: y114 :: y115 :: y116 :: y117 :: y118 :: y119 :: (.bool false) :: c121 :: c122 :: c123 :: c124 :: c125 :: c126 :: c127 :: c128 :: c129 :: c130 :: c131 :: c132 :: c133 :: c134 :: c135 :: c136 :: c137 :: c138 :: c139 :: c140 :: c141 :: c142 :: c143 :: c144 :: c145 :: c146 :: c147 :: c148 :: c149 :: c150 :: c151 :: c152 :: c153 :: c154 :: c155 :: c156 :: c157 :: c158 :: c159 :: c160 :: c161 :: c162 :: c163 :: c164 :: c165 :: c166 :: c167 :: c168 :: c169 :: c170 :: c171 :: c172 :: c173 :: c174 :: c175 :: c176 :: c177 :: c178 :: c179 :: c180 :: c181 :: c182 :: c183 :: c184 :: c185 :: c186 :: c187 :: c188 :: c189 :: c190 :: c191 :: c192 :: c193 :: c194 :: c195 :: c196 :: c197 :: c198 :: c199 :: c200 :: c201 :: c202 :: c203 :: c204 :: c205 :: c206 :: c207 :: c208 :: c209 :: c210 :: c211 :: c212 :: c213 :: c214 :: c215 :: c216 :: c217 :: c218 :: c219 :: c220 :: c221 :: c222 :: c223 :: c224 :: c225 :: [])), ds⟩ w') :
    Code.wp Try.prog decReg13 Q ⟨(List.toArray (c0 :: c1 :: c2 :: c3 :: (.slice (some ⟨rb, ro, none⟩) len rc) :: c5 :: c6 :: c7 :: c8 :: (.int .i64 (a : Int)) :: (.int .i64 (b : Int)) :: (.int .i64 2) :: (.int .i64 0) :: c13 :: c14 :: c15 :: c16 :: c17 :: c18 :: c19 :: c20 :: c21 :: c22 :: c23 :: c24 :: c25 :: c26 :: c27 :: c28 :: c29 :: c30 :: c31 :: c32 :: c33 :: c34 :: c35 :: c36 :: c37 :: c38 :: c39 :: c40 :: c41 :: c42 :: c43 :: c44 :: c45 :: c46 :: c47 :: c48 :: c49 :: c50 :: c51 :: c52 :: c53 :: c54 :: c55 :: c56 :: c57 :: c58 :: c59 :: c60 :: c61 :: c62 :: c63 :: c64 :: c65 :: c66 :: c67 :: c68 :: c69 :: c70 :: c71 :: c72 :: c73 :: c74 :: c75 :: c76 :: c77 :: c78 :: c79 :: c80 :: c81 :: c82 :: c83 :: c84 :: c85 :: c86 :: c87 :: c88 :: c89 :: c90 :: c91 :: c92 :: c93 :: c94 :: c95 :: c96 :: c97 :: c98 :: c99 :: c100 :: c101 :: c102 :: c103 :: c104 :: c105 :: c106 :: c107 :: c108 :: c109 :: c110 :: c111 :: c112 :: c113 :: c114 :: c115 :: c116 :: c117 :: c118 :: c119 :: c120 :: c121 :: c122 :: c123 :: c124 :: c125 :: c126 :: c127 :: c128 :: c129 :: c130 :: c131 :: c132 :: c133 :: c134 :: c135 :: c136 :: c137 :: c138 :: c139 :: c140 :: c141 :: c142 :: c143 :: c144 :: c145 :: c146 :: c147 :: c148 :: c149 :: c150 :: c151 :: c152 :: c153 :: c154 :: c155 :: c156 :: c157 :: c158 :: c159 :: c160 :: c161 :: c162 :: c163 :: c164 :: c165 :: c166 :: c167 :: c168 :: c169 :: c170 :: c171 :: c172 :: c173 :: c174 :: c175 :: c176 :: c177 :: c178 :: c179 :: c180 :: c181 :: c182 :: c183 :: c184 :: c185 :: c186 :: c187 :: c188 :: c189 :: c190 :: c191 :: c192 :: c193 :: c194 :: c195 :: c196 :: c197 :: c198 :: c199 :: c200 :: c201 :: c202 :: c203 :: c204 :: c205 :: c206 :: c207 :: c208 :: c209 :: c210 :: c211 :: c212 :: c213 :: c214 :: c215 :: c216 :: c217 :: c218 :: c219 :: c220 :: c221 :: c222 :: c223 :: c224 :: c225 :: [])), ds⟩ w := by
  have FR := hid fr
  have HK := hid hk
  clear fr hk
  conv => arg 2; whnf
  refine wp_region_shut Ext (fun w' => Ext w w') (fun _ => none) (by kernel_rfl) (by kernel_rfl) (fun _ _ h k => h.trans k) (fun i R h => by cases h) (Ext.drew (Ext.refl w)) ?_
  refine wM_val ?ua0 rfl rfl Ext.refl (fun w' hD => ?ha0) (fun pha0 => ?na0)
  case ha0 =>
    obtain ⟨d0, d1⟩ := FR.out _ hD.1
    go_simp; rfl
  simp only [Act.put, List.setIfInBounds_toArray, List.set_cons_succ, List.set_cons_zero, Nat.reduceAdd]
  refine wM_val ?ua1 rfl rfl Ext.refl (fun w' hD => ?ha1) (fun pha1 => ?na1)
  case ha1 =>
    obtain ⟨d0, d1⟩ := FR.out _ hD.1
    go_simp; rfl
  simp only [Act.put, List.setIfInBounds_toArray, List.set_cons_succ, List.set_cons_zero, Nat.reduceAdd]
  refine wM_val ?ua2 rfl rfl Ext.refl (fun w' hD => ?ha2) (fun pha2 => ?na2)
  case ha2 =>
    obtain ⟨d0, d1⟩ := FR.out _ hD.1
    go_simp; rfl
  simp only [Act.put, List.setIfInBounds_toArray, List.set_cons_succ, List.set_cons_zero, Nat.reduceAdd]
  refine wM_val ?ua3 rfl rfl Ext.refl (fun w' hD => ?ha3) (fun pha3 => ?na3)
  case ha3 =>
    obtain ⟨d0, d1⟩ := FR.out _ hD.1
    go_simp; rfl
  simp only [Act.put, List.setIfInBounds_toArray, List.set_cons_succ, List.set_cons_zero, Nat.reduceAdd]
  refine wM_val ?ua4 rfl rfl Ext.refl (fun w' hD => ?ha4) (fun pha4 => ?na4)
  case ha4 =>
    obtain ⟨d0, d1⟩ := FR.out _ hD.1
    go_simp; rfl
  simp only [Act.put, List.setIfInBounds_toArray, List.set_cons_succ, List.set_cons_zero, Nat.reduceAdd]
  refine wM_val ?ua5 rfl rfl Ext.refl (fun w' hD => ?ha5) (fun pha5 => ?na5)
  case ha5 =>
    obtain ⟨d0, d1⟩ := FR.out _ hD.1
    go_simp; rfl
  simp only [Act.put, List.setIfInBounds_toArray, List.set_cons_succ, List.set_cons_zero, Nat.reduceAdd]
  refine wM_skip rfl ?_
  simp only [Act.put, List.setIfInBounds_toArray, List.set_cons_succ, List.set_cons_zero, Nat.reduceAdd]
  refine wM_skip rfl ?_
  simp only [Act.put, List.setIfInBounds_toArray, List.set_cons_succ, List.set_cons_zero, Nat.reduceAdd]
  refine wM_skip rfl ?_
  simp only [Act.put, List.setIfInBounds_toArray, List.set_cons_succ, List.set_cons_zero, Nat.reduceAdd]
  refine wM_skip rfl ?_
  simp only [Act.put, List.setIfInBounds_toArray, List.set_cons_succ, List.set_cons_zero, Nat.reduceAdd]
  refine wM_skip rfl ?_
  simp only [Act.put, List.setIfInBounds_toArray, List.set_cons_succ, List.set_cons_zero, Nat.reduceAdd]
  refine wM_skip rfl ?_
  simp only [Act.put, List.setIfInBounds_toArray, List.set_cons_succ, List.set_cons_zero, Nat.reduceAdd]
  refine wM_skip rfl ?_
  simp only [Act.put, List.setIfInBounds_toArray, List.set_cons_succ, List.set_cons_zero, Nat.reduceAdd]
  refine wM_skip rfl ?_
  simp only [Act.put, List.setIfInBounds_toArray, List.set_cons_succ, List.set_cons_zero, Nat.reduceAdd]
  refine wM_skip rfl ?_
  simp only [Act.put, List.setIfInBounds_toArray, List.set_cons_succ, List.set_cons_zero, Nat.reduceAdd]
  refine wM_val ?ua15 rfl rfl Ext.refl (fun w' hD => ?ha15) (fun pha15 => ?na15)
  case ha15 =>
    obtain ⟨d0, d1⟩ := FR.out _ hD.1
    go_simp; rfl
  simp only [Act.put, List.setIfInBounds_toArray, List.set_cons_succ, List.set_cons_zero, Nat.reduceAdd]
  refine wM_val ?ua16 rfl rfl Ext.refl (fun w' hD => ?ha16) (fun pha16 => ?na16)
  case ha16 =>
    obtain ⟨d0, d1⟩ := FR.out _ hD.1
    go_simp; rfl
  simp only [Act.put, List.setIfInBounds_toArray, List.set_cons_succ, List.set_cons_zero, Nat.reduceAdd]
  refine wM_val ?ua17 rfl rfl Ext.refl (fun w' hD => ?ha17) (fun pha17 => ?na17)
  case ha17 =>
    obtain ⟨d0, d1⟩ := FR.out _ hD.1
    go_simp; rfl
  simp only [Act.put, List.setIfInBounds_toArray, List.set_cons_succ, List.set_cons_zero, Nat.reduceAdd]
  refine wM_val ?ua18 rfl rfl Ext.refl (fun w' hD => ?ha18) (fun pha18 => ?na18)
  case ha18 =>
    obtain ⟨d0, d1⟩ := FR.out _ hD.1
    go_simp; rfl
  simp only [Act.put, List.setIfInBounds_toArray, List.set_cons_succ, List.set_cons_zero, Nat.reduceAdd]
  refine wM_val ?ua19 rfl rfl Ext.refl (fun w' hD => ?ha19) (fun pha19 => ?na19)
  case ha19 =>
    obtain ⟨d0, d1⟩ := FR.out _ hD.1
    go_simp; rfl
  simp only [Act.put, List.setIfInBounds_toArray, List.set_cons_succ, List.set_cons_zero, Nat.reduceAdd]
  refine wM_val ?ua20 rfl rfl Ext.refl (fun w' hD => ?ha20) (fun pha20 => ?na20)
  case ha20 =>
    obtain ⟨d0, d1⟩ := FR.out _ hD.1
    go_simp; rfl
  simp only [Act.put, List.setIfInBounds_toArray, List.set_cons_succ, List.set_cons_zero, Nat.reduceAdd]
  refine wM_val ?ua21 rfl rfl Ext.refl (fun w' hD => ?ha21) (fun pha21 => ?na21)
  case ha21 =>
    obtain ⟨d0, d1⟩ := FR.out _ hD.1
    go_simp; rfl
  simp only [Act.put, List.setIfInBounds_toArray, List.set_cons_succ, List.set_cons_zero, Nat.reduceAdd]
  refine wM_val ?ua22 rfl rfl Ext.refl (fun w' hD => ?ha22) (fun pha22 => ?na22)
  case ha22 =>
    obtain ⟨d0, d1⟩ := FR.out _ hD.1
    go_simp; rfl
  simp only [Act.put, List.setIfInBounds_toArray, List.set_cons_succ, List.set_cons_zero, Nat.reduceAdd]
  refine wM_val ?ua23 rfl rfl Ext.refl (fun w' hD => ?ha23) (fun pha23 => ?na23)
  case ha23 =>
    obtain ⟨d0, d1⟩ := FR.out _ hD.1
    go_simp; rfl
  simp only [Act.put, List.setIfInBounds_toArray, List.set_cons_succ, List.set_cons_zero, Nat.reduceAdd]
  refine wM_val ?ua24 rfl rfl Ext.refl (fun w' hD => ?ha24) (fun pha24 => ?na24)
  case ha24 =>
    obtain ⟨d0, d1⟩ := FR.out _ hD.1
    go_simp; rfl
  simp only [Act.put, List.setIfInBounds_toArray, List.set_cons_succ, List.set_cons_zero, Nat.reduceAdd]
  refine wM_val ?ua25 rfl rfl Ext.refl (fun w' hD => ?ha25) (fun pha25 => ?na25)
  case ha25 =>
    obtain ⟨d0, d1⟩ := FR.out _ hD.1
    go_simp; rfl
  simp only [Act.put, List.setIfInBounds_toArray, List.set_cons_succ, List.set_cons_zero, Nat.reduceAdd]
  refine wM_val ?ua26 rfl rfl Ext.refl (fun w' hD => ?ha26) (fun pha26 => ?na26)
  case ha26 =>
    obtain ⟨d0, d1⟩ := FR.out _ hD.1
    go_simp; rfl
  simp only [Act.put, List.setIfInBounds_toArray, List.set_cons_succ, List.set_cons_zero, Nat.reduceAdd]
  refine wM_val ?ua27 rfl rfl Ext.refl (fun w' hD => ?ha27) (fun pha27 => ?na27)
  case ha27 =>
    obtain ⟨d0, d1⟩ := FR.out _ hD.1
    go_simp; rfl
  simp only [Act.put, List.setIfInBounds_toArray, List.set_cons_succ, List.set_cons_zero, Nat.reduceAdd]
  refine wM_val ?ua28 rfl rfl Ext.refl (fun w' hD => ?ha28) (fun pha28 => ?na28)
  case ha28 =>
    obtain ⟨d0, d1⟩ := FR.out _ hD.1
    go_simp; rfl
  simp only [Act.put, List.setIfInBounds_toArray, List.set_cons_succ, List.set_cons_zero, Nat.reduceAdd]
  refine wM_val ?ua29 rfl rfl Ext.refl (fun w' hD => ?ha29) (fun pha29 => ?na29)
  case ha29 =>
    obtain ⟨d0, d1⟩ := FR.out _ hD.1
    go_simp; rfl
  simp only [Act.put, List.setIfInBounds_toArray, List.set_cons_succ, List.set_cons_zero, Nat.reduceAdd]
  refine wM_val ?ua30 rfl rfl Ext.refl (fun w' hD => ?ha30) (fun pha30 => ?na30)
  case ha30 =>
    obtain ⟨d0, d1⟩ := FR.out _ hD.1
    go_simp; rfl
  simp only [Act.put, List.setIfInBounds_toArray, List.set_cons_succ, List.set_cons_zero, Nat.reduceAdd]
  refine wM_val ?ua31 rfl rfl Ext.refl (fun w' hD => ?ha31) (fun pha31 => ?na31)
  case ha31 =>
    obtain ⟨d0, d1⟩ := FR.out _ hD.1
    go_simp; rfl
  simp only [Act.put, List.setIfInBounds_toArray, List.set_cons_succ, List.set_cons_zero, Nat.reduceAdd]
  refine wM_val ?ua32 rfl rfl Ext.refl (fun w' hD => ?ha32) (fun pha32 => ?na32)
  case ha32 =>
    obtain ⟨d0, d1⟩ := FR.out _ hD.1
    go_simp; rfl
  simp only [Act.put, List.setIfInBounds_toArray, List.set_cons_succ, List.set_cons_zero, Nat.reduceAdd]
  refine wM_val ?ua33 rfl rfl Ext.refl (fun w' hD => ?ha33) (fun pha33 => ?na33)
  case ha33 =>
    obtain ⟨d0, d1⟩ := FR.out _ hD.1
    go_simp; rfl
  simp only [Act.put, List.setIfInBounds_toArray, List.set_cons_succ, List.set_cons_zero, Nat.reduceAdd]
  refine wM_val ?ua34 rfl rfl Ext.refl (fun w' hD => ?ha34) (fun pha34 => ?na34)
  case ha34 =>
    obtain ⟨d0, d1⟩ := FR.out _ hD.1
    go_simp; rfl
  simp only [Act.put, List.setIfInBounds_toArray, List.set_cons_succ, List.set_cons_zero, Nat.reduceAdd]
  refine wM_val ?ua35 rfl rfl Ext.refl (fun w' hD => ?ha35) (fun pha35 => ?na35)
  case ha35 =>
    obtain ⟨d0, d1⟩ := FR.out _ hD.1
    go_simp; rfl
  simp only [Act.put, List.setIfInBounds_toArray, List.set_cons_succ, List.set_cons_zero, Nat.reduceAdd]
  refine wM_val ?ua36 rfl rfl Ext.refl (fun w' hD => ?ha36) (fun pha36 => ?na36)
  case ha36 =>
    obtain ⟨d0, d1⟩ := FR.out _ hD.1
    go_simp; rfl
  simp only [Act.put, List.setIfInBounds_toArray, List.set_cons_succ, List.set_cons_zero, Nat.reduceAdd]
  refine wM_skip rfl ?_
  simp only [Act.put, List.setIfInBounds_toArray, List.set_cons_succ, List.set_cons_zero, Nat.reduceAdd]
  refine wM_skip rfl ?_
  simp only [Act.put, List.setIfInBounds_toArray, List.set_cons_succ, List.set_cons_zero, Nat.reduceAdd]
  refine wM_val ?ua39 rfl rfl Ext.refl (fun w' hD => ?ha39) (fun pha39 => ?na39)
  case ha39 =>
    obtain ⟨d0, d1⟩ := FR.out _ hD.1
    go_simp; rfl
  simp only [Act.put, List.setIfInBounds_toArray, List.set_cons_succ, List.set_cons_zero, Nat.reduceAdd]
  refine wM_val ?ua40 rfl rfl Ext.refl (fun w' hD => ?ha40) (fun pha40 => ?na40)
  case ha40 =>
    obtain ⟨d0, d1⟩ := FR.out _ hD.1
    go_simp; rfl
  simp only [Act.put, List.setIfInBounds_toArray, List.set_cons_succ, List.set_cons_zero, Nat.reduceAdd]
  refine wM_nil ?_
  intro w9 hw9 hF9
  exact HK.out _ _ _ _ _ _ _ _ _ _ _ _ _ _ _ _ _ _ _ _ _ _ _ _ _ _ _ _ _ _ _ _ _ _ _ _ _ _ _ _ w9 hw9

set_option maxRecDepth 1000000 in
set_option maxHeartbeats 4000000 in
theorem dec_r13z {rb ro len rc a b : Nat} {x y : Int} (w : World) (Q : Exit → Act → World → Prop) (c0 c1 c2 c3 c5 c6 c7 c8 c13 c14 c15 c16 c17 c18 c19 c20 c21 c22 c23 c24 c25 c26 c27 c28 c29 c30 c31 c32 c33 c34 c35 c36 c37 c38 c39 c40 c41 c42 c43 c44 c45 c46 c47 c48 c49 c50 c51 c52 c53 c54 c55 c56 c57 c58 c59 c60 c61 c62 c63 c64 c65 c66 c67 c68 c69 c70 c71 c72 c73 c74 c75 c76 c77 c78 c79 c80 c81 c82 c83 c84 c85 c86 c87 c88 c89 c90 c91 c92 c93 c94 c95 c96 c97 c98 c99 c100 c101 c102 c103 c104 c105 c106 c107 c108 c109 c110 c111 c112 c113 c114 c115 c116 c117 c118 c119 c120 c121 c122 c123 c124 c125 c126 c127 c128 c129 c130 c131 c132 c133 c134 c135 c136 c137 c138 c139 c140 c141 c142 c143 c144 c145 c146 c147 c148 c149 c150 c151 c152 c153 c154 c155 c156 c157 c158 c159 c160 c161 c162 c163 c164 c165 c166 c167 c168 c169 c170 c171 c172 c173 c174 c175 c176 c177 c178 c179 c180 c181 c182 c183 c184 c185 c186 c187 c188 c189 c190 c191 c192 c193 c194 c195 c196 c197 c198 c199 c200 c201 c202 c203 c204 c205 c206 c207 c208 c209 c210 c211 c212 c213 c214 c215 c216 c217 c218 c219 c220 c221 c222 c223 c224 c225 : Value) (ds : List Deferred)
    (fr : ∀ w', Ext w w' → w'.cell? ⟨rb, ro + a, none⟩ = some (.int .i64 x) ∧ w'.cell? ⟨rb, ro + b, none⟩ = some (.int .i64 y)) (hr1 : (a : Int) < (len : Int)) (hr2 : (b : Int) < (len : Int)) (hnb : ((a : Int) == (b : Int)) = false)
    (hk : ∀ (y80 y81 y82 y83 y84 y85 y86 y87 y88 y89 y90 y91 y92 y93 y94 y95 y96 y97 y98 y99 y100 y101 y102 y103 y104 y105 y106 y107 y108 y109 y110 y111 y112 y113 y114 y115 y116 y117 y118 y119 : Value) (w' : World), Ext w w' → Q .normal ⟨(List.toArray (c0 :: c1 :: c2 :: c3 :: (.slice (some ⟨rb, ro, none⟩) len rc) :: c5 :: c6 :: c7 :: c8 :: (.int .i64 (a : Int)) :: (.int .i64 (b : Int)) :: (.int .i64 0) :: (.int .i64 0) :: c13 :: c14 :: c15 :: c16 :: c17 :: c18 :: c19 :: c20 :: c21 :: c22 :: c23 :: c24 :: c25 :: c26 :: c27 :: c28 :: c29 :: c30 :: c31 :: c32 :: c33 :: c34 :: c35 :: c36 :: c37 :: c38 :: c39 :: c40 :: c41 :: c42 :: c43 :: c44 :: c45 :: c46 :: c47 :: c48 :: c49 :: c50 :: c51 :: c52 :: c53 :: c54 :: c55 :: c56 :: c57 :: c58 :: c59 :: c60 :: c61 :: c62 :: c63 :: c64 :: c65 :: c66 :: c67 :: c68 :: c69 :: c70 :: c71 :: c72 :: c73 :: c74 :: c75 :: c76 :: c77 :: c78 :: c79 :: y80 :: y81 :: y82 :: y83 :: y84 :: y85 :: y86 :: y87 :: y88 :: y89 :: y90 :: y91 :: y92 :: y93 :: y94 :: y95 :: y96 :: y97 :: y98 :: y99 :: y100 :: y101 :: y102 :: y103 :: y104 :: y105 :: y106 :: y107 :: y108 :: y109 :: y110 :: y111 :: y112 :: y113 :: y114 :: y115 :: y116 :: y117 :: y118 :: y119 :: (.bool false) :: c121 :: c122 :: c123 :: c124 :: c125 :: c126 :: c127 :: c128 :: c129 :: c130 :: c131 :: c132 :: c133 :: c134 :: c135 :: c136 :: c137 :: c138 :: c139 :: c140 :: c141 :: c142 :: c143 :: c144 :: c145 :: c146 :: c147 :: c148 :: c149 :: c150 :: c151 :: c152 :: c153 :: c154 :: c155 :: c156 :: c157 :: c158 :: c159 :: c160 :: c161 :: c162 :: c163 :: c164 :: c165 :: c166 :: c167 :: c168 :: c169 :: c170 :: c171 :: c172 :: c173 :: c174 :: c175 :: c176 :: c177 :: c178 :: c179 :: c180 :: c181 :: c182 :: c183 :: c184 :: c185 :: c186 :: c187 :: c188 :: c189 :: c190 :: c191 :: c192 :: c193 :: c194 :: c195 :: c196 :: c197 :: c198 :: c199 :: c200 :: c201 :: c202 :: c203 :: c204 :: c205 :: c206 :: c207 :: c208 :: c209 :: c210 :: c211 :: c212 :: c213 :: c214 :: c215 :: c216 :: c217 :: c218 :: c219 :: c220 :: c221 :: c222 :: c223 :: c224 :: c225 :: [])), ds⟩ w') :
    Code.wp Try.prog decReg13 Q ⟨(List.toArray (c0 :: c1 :: c2 :: c3 :: (.slice (some ⟨rb, ro, none⟩) len rc) :: c5 :: c6 :: c7 :: c8 :: (.int .i64 (a : Int)) :: (.int .i64 (b : Int)) :: (.int .i64 0) :: (.int .i64 0) :: c13 :: c14 :: c15 :: c16 :: c17 :: c18 :: c19 :: c20 :: c21 :: c22 :: c23 :: c24 :: c25 :: c26 :: c27 :: c28 :: c29 :: c30 :: c31 :: c32 :: c33 :: c34 :: c35 :: c36 :: c37 :: c38 :: c39 :: c40 :: c41 :: c42 :: c43 :: c44 :: c45 :: c46 :: c47 :: c48 :: c49 :: c50 :: c51 :: c52 :: c53 :: c54 :: c55 :: c56 :: c57 :: c58 :: c59 :: c60 :: c61 :: c62 :: c63 :: c64 :: c65 :: c66 :: c67 :: c68 :: c69 :: c70 :: c71 :: c72 :: c73 :: c74 :: c75 :: c76 :: c77 :: c78 :: c79 :: c80 :: c81 :: c82 :: c83 :: c84 :: c85 :: c86 :: c87 :: c88 :: c89 :: c90 :: c91 :: c92 :: c93 :: c94 :: c95 :: c96 :: c97 :: c98 :: c99 :: c100 :: c101 :: c102 :: c103 :: c104 :: c105 :: c106 :: c107 :: c108 :: c109 :: c110 :: c111 :: c112 :: c113 :: c114 :: c115 :: c116 :: c117 :: c118 :: c119 :: c120 :: c121 :: c122 :: c123 :: c124 :: c125 :: c126 :: c127 :: c128 :: c129 :: c130 :: c131 :: c132 :: c133 :: c134 :: c135 :: c136 :: c137 :: c138 :: c139 :: c140 :: c141 :: c142 :: c143 :: c144 :: c145 :: c146 :: c147 :: c148 :: c149 :: c150 :: c151 :: c152 :: c153 :: c154 :: c155 :: c156 :: c157 :: c158 :: c159 :: c160 :: c161 :: c162 :: c163 :: c164 :: c165 :: c166 :: c167 :: c168 :: c169 :: c170 :: c171 :: c172 :: c173 :: c174 :: c175 :: c176 :: c177 :: c178 :: c179 :: c180 :: c181 :: c182 :: c183 :: c184 :: c185 :: c186 :: c187 :: c188 :: c189 :: c190 :: c191 :: c192 :: c193 :: c194 :: c195 :: c196 :: c197 :: c198 :: c199 :: c200 :: c201 :: c202 :: c203 :: c204 :: c205 :: c206 :: c207 :: c208 :: c209 :: c210 :: c211 :: c212 :: c213 :: c214 :: c215 :: c216 :: c217 :: c218 :: c219 :: c220 :: c221 :: c222 :: c223 :: c224 :: c225 :: [])), ds⟩ w := by
  have FR := hid fr
  have HK := hid hk
  clear fr hk
  conv => arg 2; whnf
  refine wp_region_shut Ext (fun w' => Ext w w') (fun _ => none) (by kernel_rfl) (by kernel_rfl) (fun _ _ h k => h.trans k) (fun i R h => by cases h) (Ext.drew (Ext.refl w)) ?_
  refine wM_val ?ua0 rfl rfl Ext.refl (fun w' hD => ?ha0) (fun pha0 => ?na0)
  case ha0 =>
    obtain ⟨d0, d1⟩ := FR.out _ hD.1
    go_simp; rfl
  simp only [Act.put, List.setIfInBounds_toArray, List.set_cons_succ, List.set_cons_zero, Nat.reduceAdd]
  refine wM_val ?ua1 rfl rfl Ext.refl (fun w' hD => ?ha1) (fun pha1 => ?na1)
  case ha1 =>
    obtain ⟨d0, d1⟩ := FR.out _ hD.1
    go_simp; rfl
  simp only [Act.put, List.setIfInBounds_toArray, List.set_cons_succ, List.set_cons_zero, Nat.reduceAdd]
  refine wM_val ?ua2 rfl rfl Ext.refl (fun w' hD => ?ha2) (fun pha2 => ?na2)
  case ha2 =>
    obtain ⟨d0, d1⟩ := FR.out _ hD.1
    go_simp; rfl
  simp only [Act.put, List.setIfInBounds_toArray, List.set_cons_succ, List.set_cons_zero, Nat.reduceAdd]
  refine wM_val ?ua3 rfl rfl Ext.refl (fun w' hD => ?ha3) (fun pha3 => ?na3)
  case ha3 =>
    obtain ⟨d0, d1⟩ := FR.out _ hD.1
    go_simp; rfl
  simp only [Act.put, List.setIfInBounds_toArray, List.set_cons_succ, List.set_cons_zero, Nat.reduceAdd]
  refine wM_val ?ua4 rfl rfl Ext.refl (fun w' hD => ?ha4) (fun pha4 => ?na4)
  case ha4 =>
    obtain ⟨d0, d1⟩ := FR.out _ hD.1
    go_simp; rfl
  simp only [Act.put, List.setIfInBounds_toArray, List.set_cons_succ, List.set_cons_zero, Nat.reduceAdd]
  refine wM_val ?ua5 rfl rfl Ext.refl (fun w' hD => ?ha5) (fun pha5 => ?na5)
  case ha5 =>
    obtain ⟨d0, d1⟩ := FR.out _ hD.1
    go_simp; rfl
  simp only [Act.put, List.setIfInBounds_toArray, List.set_cons_succ, List.set_cons_zero, Nat.reduceAdd]
  refine wM_skip rfl ?_
  simp only [Act.put, List.setIfInBounds_toArray, List.set_cons_succ, List.set_cons_zero, Nat.reduceAdd]
  refine wM_skip rfl ?_
  simp only [Act.put, List.setIfInBounds_toArray, List.set_cons_succ, List.set_cons_zero, Nat.reduceAdd]
  refine wM_skip rfl ?_
  simp only [Act.put, List.setIfInBounds_toArray, List.set_cons_succ, List.set_cons_zero, Nat.reduceAdd]
  refine wM_skip rfl ?_
  simp only [Act.put, List.setIfInBounds_toArray, List.set_cons_succ, List.set_cons_zero, Nat.reduceAdd]
  refine wM_skip rfl ?_
  simp only [Act.put, List.setIfInBounds_toArray, List.set_cons_succ, List.set_cons_zero, Nat.reduceAdd]
  refine wM_skip rfl ?_
  simp only [Act.put, List.setIfInBounds_toArray, List.set_cons_succ, List.set_cons_zero, Nat.reduceAdd]
  refine wM_skip rfl ?_
  simp only [Act.put, List.setIfInBounds_toArray, List.set_cons_succ, List.set_cons_zero, Nat.reduceAdd]
  refine wM_skip rfl ?_
  simp only [Act.put, List.setIfInBounds_toArray, List.set_cons_succ, List.set_cons_zero, Nat.reduceAdd]
  refine wM_skip rfl ?_
  simp only [Act.put, List.setIfInBounds_toArray, List.set_cons_succ, List.set_cons_zero, Nat.reduceAdd]
  refine wM_val ?ua15 rfl rfl Ext.refl (fun w' hD => ?ha15) (fun pha15 => ?na15)
  case ha15 =>
    obtain ⟨d0, d1⟩ := FR.out _ hD.1
    go_simp; rfl
  simp only [Act.put, List.setIfInBounds_toArray, List.set_cons_succ, List.set_cons_zero, Nat.reduceAdd]
  refine wM_val ?ua16 rfl rfl Ext.refl (fun w' hD => ?ha16) (fun pha16 => ?na16)
  case ha16 =>
    obtain ⟨d0, d1⟩ := FR.out _ hD.1
    go_simp; rfl
  simp only [Act.put, List.setIfInBounds_toArray, List.set_cons_succ, List.set_cons_zero, Nat.reduceAdd]
  refine wM_val ?ua17 rfl rfl Ext.refl (fun w' hD => ?ha17) (fun pha17 => ?na17)
  case ha17 =>
    obtain ⟨d0, d1⟩ := FR.out _ hD.1
    go_simp; rfl
  simp only [Act.put, List.setIfInBounds_toArray, List.set_cons_succ, List.set_cons_zero, Nat.reduceAdd]
  refine wM_val ?ua18 rfl rfl Ext.refl (fun w' hD => ?ha18) (fun pha18 => ?na18)
  case ha18 =>
    obtain ⟨d0, d1⟩ := FR.out _ hD.1
    go_simp; rfl
  simp only [Act.put, List.setIfInBounds_toArray, List.set_cons_succ, List.set_cons_zero, Nat.reduceAdd]
  refine wM_val ?ua19 rfl rfl Ext.refl (fun w' hD => ?ha19) (fun pha19 => ?na19)
  case ha19 =>
    obtain ⟨d0, d1⟩ := FR.out _ hD.1
    go_simp; rfl
  simp only [Act.put, List.setIfInBounds_toArray, List.set_cons_succ, List.set_cons_zero, Nat.reduceAdd]
  refine wM_val ?ua20 rfl rfl Ext.refl (fun w' hD => ?ha20) (fun pha20 => ?na20)
  case ha20 =>
    obtain ⟨d0, d1⟩ := FR.out _ hD.1
    go_simp; rfl
  simp only [Act.put, List.setIfInBounds_toArray, List.set_cons_succ, List.set_cons_zero, Nat.reduceAdd]
  refine wM_skip rfl ?_
  simp only [Act.put, List.setIfInBounds_toArray, List.set_cons_succ, List.set_cons_zero, Nat.reduceAdd]
  refine wM_skip rfl ?_
  simp only [Act.put, List.setIfInBounds_toArray, List.set_cons_succ, List.set_cons_zero, Nat.reduceAdd]
  refine wM_skip rfl ?_
  simp only [Act.put, List.setIfInBounds_toArray, List.set_cons_succ, List.set_cons_zero, Nat.reduceAdd]
  refine wM_skip rfl ?_
  simp only [Act.put, List.setIfInBounds_toArray, List.set_cons_succ, List.set_cons_zero, Nat.reduceAdd]
  refine wM_skip rfl ?_
  simp only [Act.put, List.setIfInBounds_toArray, List.set_cons_succ, List.set_cons_zero, Nat.reduceAdd]
  refine wM_skip rfl ?_
  simp only [Act.put, List.setIfInBounds_toArray, List.set_cons_succ, List.set_cons_zero, Nat.reduceAdd]
  refine wM_skip rfl ?_
  simp only [Act.put, List.setIfInBounds_toArray, List.set_cons_succ, List.set_cons_zero, Nat.reduceAdd]
  refine wM_skip rfl ?_
  simp only [Act.put, List.setIfInBounds_toArray, List.set_cons_succ, List.set_cons_zero, Nat.reduceAdd]
  refine wM_skip rfl ?_
  simp only [Act.put, List.setIfInBounds_toArray, List.set_cons_succ, List.set_cons_zero, Nat.reduceAdd]
  refine wM_val ?ua30 rfl rfl Ext.refl (fun w' hD => ?ha30) (fun pha30 => ?na30)
  case ha30 =>
    obtain ⟨d0, d1⟩ := FR.out _ hD.1
    go_simp; rfl
  simp only [Act.put, List.setIfInBounds_toArray, List.set_cons_succ, List.set_cons_zero, Nat.reduceAdd]
  refine wM_val ?ua31 rfl rfl Ext.refl (fun w' hD => ?ha31) (fun pha31 => ?na31)
  case ha31 =>
    obtain ⟨d0, d1⟩ := FR.out _ hD.1
    go_simp; rfl
  simp only [Act.put, List.setIfInBounds_toArray, List.set_cons_succ, List.set_cons_zero, Nat.reduceAdd]
  refine wM_val ?ua32 rfl rfl Ext.refl (fun w' hD => ?ha32) (fun pha32 => ?na32)
  case ha32 =>
    obtain ⟨d0, d1⟩ := FR.out _ hD.1
    go_simp; rfl
  simp only [Act.put, List.setIfInBounds_toArray, List.set_cons_succ, List.set_cons_zero, Nat.reduceAdd]
  refine wM_val ?ua33 rfl rfl Ext.refl (fun w' hD => ?ha33) (fun pha33 => ?na33)
  case ha33 =>
    obtain ⟨d0, d1⟩ := FR.out _ hD.1
    go_simp; rfl
  simp only [Act.put, List.setIfInBounds_toArray, List.set_cons_succ, List.set_cons_zero, Nat.reduceAdd]
  refine wM_val ?ua34 rfl rfl Ext.refl (fun w' hD => ?ha34) (fun pha34 => ?na34)
  case ha34 =>
    obtain ⟨d0, d1⟩ := FR.out _ hD.1
    go_simp; rfl
  simp only [Act.put, List.setIfInBounds_toArray, List.set_cons_succ, List.set_cons_zero, Nat.reduceAdd]
  refine wM_val ?ua35 rfl rfl Ext.refl (fun w' hD => ?ha35) (fun pha35 => ?na35)
  case ha35 =>
    obtain ⟨d0, d1⟩ := FR.out _ hD.1
    go_simp; rfl
  simp only [Act.put, List.setIfInBounds_toArray, List.set_cons_succ, List.set_cons_zero, Nat.reduceAdd]
  refine wM_val ?ua36 rfl rfl Ext.refl (fun w' hD => ?ha36) (fun pha36 => ?na36)
  case ha36 =>
    obtain ⟨d0, d1⟩ := FR.out _ hD.1
    go_simp; rfl
  simp only [Act.put, List.setIfInBounds_toArray, List.set_cons_succ, List.set_cons_zero, Nat.reduceAdd]
  refine wM_skip rfl ?_
  simp only [Act.put, List.setIfInBounds_toArray, List.set_cons_succ, List.set_cons_zero, Nat.reduceAdd]
  refine wM_skip rfl ?_
  simp only [Act.put, List.setIfInBounds_toArray, List.set_cons_succ, List.set_cons_zero, Nat.reduceAdd]
  refine wM_val ?ua39 rfl rfl Ext.refl (fun w' hD => ?ha39) (fun pha39 => ?na39)
  case ha39 =>
    obtain ⟨d0, d1⟩ := FR.out _ hD.1
    go_simp; rfl
  simp only [Act.put, List.setIfInBounds_toArray, List.set_cons_succ, List.set_cons_zero, Nat.reduceAdd]
  refine wM_val ?ua40 rfl rfl Ext.refl (fun w' hD => ?ha40) (fun pha40 => ?na40)
  case ha40 =>
    obtain ⟨d0, d1⟩ := FR.out _ hD.1
    go_simp; rfl
  simp only [Act.put, List.setIfInBounds_toArray, List.set_cons_succ, List.set_cons_zero, Nat.reduceAdd]
  refine wM_nil ?_
  intro w9 hw9 hF9
  exact HK.out _ _ _ _ _ _ _ _ _ _ _ _ _ _ _ _ _ _ _ _ _ _ _ _ _ _ _ _ _ _ _ _ _ _ _ _ _ _ _ _ w9 hw9
end Go.Proofs.Ytgnjhaomlbkgcaa

namespace Go.Proofs.Ytgnjhaomlbkgcaa
open Go Go.RowKit Go.Shelf
set_option linter.unusedVariables false
set_option linter.unusedSimpArgs false

theorem row_dec {c : Cs} (h0 : checkC c = 0) (hf : Fine c.all) {a b : Nat} (ha : (a : Int) < c.ev) (hb : (b : Int) < c.ev) (hg : gapsM allT c a b ≤ 0) : rowC c a b = 0 ∧ RowOK c.all c.ev.toNat a b (gapsM allT c a b) := by
  have h1 := asked_two h0 hf ha hb
  have hn : gapsM allT c a b ≠ far := by unfold far; omega
  refine ⟨?_, row_ok h0 hf ha hb hn⟩
  unfold rowC
  rw [if_pos h1, Int.toNat_natCast, Int.toNat_natCast, if_neg hn]
theorem add_sized {c : Cs} (h : c.sized) (x : Bd) (hb : c.bs.length ≤ 20) : (c.add x).sized := by
  obtain ⟨h1, h2, h3⟩ := h
  exact ⟨by simp [Cs.add]; omega, h2, h3⟩

theorem own_someS {w : World} {base e size n c : Nat} {A : Option Addr} {xs : List Value} (h : w.ownsRow base e size (.slice A (n + 1) c) (n + 1) xs) : ∃ g, A = some ⟨g, 0, none⟩ := by
  rcases h.2 with ⟨h, h0⟩ | ⟨g, cap, cur, h, _⟩
  · cases h0
  · cases h; exact ⟨g, rfl⟩

set_option maxRecDepth 100000 in
set_option maxHeartbeats 8000000 in
theorem decw_any (A : Option Addr) (l : List Int) (cap : Nat) (w : World) (hA : Bytes w A l) (hl : ∀ x ∈ l, 0 ≤ x ∧ x ≤ 255) (hlt : ∀ a, A = some a → l = [] ∨ a.block < w.heap.size) (hn : l.length ≤ 9223372036854775807) :
    Calls Try.prog 12 #[.slice A l.length cap] w fun e w' => e = .returned (.bool true) ∧ Ext w w' := by
  go_enter Try.func12, Try.ntmps12
  go_wp2_with fail
  refine (pile_any A l cap _ hA hl hlt hn).mono ?_
  rintro e w1 ⟨D, rfl, hD, hx1, hh1⟩
  have hs1 := hx1.size
  clear hA hlt hl
  go_wp2_with fail
  refine Calls.mono (made_any D 8 16 4 0 w1 hh1 (by omega) (by omega) (by omega) (by omega) (by omega) (by omega)) ?_
  rintro e w2 ⟨v, c, real, A3, c3, rfl, hc, hI, hM, hb2, hh2⟩
  have x2 := hx1.then_bel (by omega) hb2
  have hsz := hM.sized1 (by omega) (by omega)
  have h0 := hM.check (by decide) (by decide) (by omega) (by omega) (by omega)
  have hf := hM.truth.fine
  have hev2 := hM.ev2
  have hev8 := hM.evm
  have hrl := hM.len
  have hr0 := hM.real0
  have HRE := hid hM.real_
  have HDO : Hid (∀ a b : Nat, (a : Int) < c.ev → (b : Int) < c.ev → DecOK c real a b) := fun a b ha hb => dec_ok hM (by omega) (by omega) (by omega) ha hb
  have HBS : Hid (c.bs.length ≤ 20) := by have := hM.bsl; unfold Hid; omega
  have HTR : Hid (∀ b ∈ c.all, bdHolds real b = true) := fun b hb => by
    have := hM.truth b hb
    unfold bdHolds
    simpa using this
  have HM2 : Hid (∀ b ∈ c.all, -2000 ≤ b.m ∧ b.m ≤ 2000) := fun b hb => by
    have := limOK_get (checkC_ok h0).2.1 hb
    omega
  have HIN : Hid (∀ b ∈ c.all, bdIn real.length b) := bdIn_of h0 hrl
  have h52 := checkC_52 h0
  obtain ⟨N, hN⟩ : ∃ N : Nat, c.ev = N := ⟨c.ev.toNat, by omega⟩
  obtain ⟨A1, c1, A2, c2, hv, hB, hC⟩ := hc
  rw [hN] at hv hrl hev2 hev8
  subst hv
  have HN := hid hN
  have hN8 : N ≤ 8 := by omega
  have hN2 : 2 ≤ N := by omega
  obtain ⟨z0, hz0⟩ := get_of_lt real 0 (by omega)
  obtain ⟨rb, ro, rfl, -⟩ := hI.at_ hz0
  have hz00 : real[0]? = some 0 := by rw [hz0, ← hr0]; simp [List.getD_eq_getElem?_getD, hz0]
  have HZ0 := hid hz00
  clear hb2 hh2 hh1 hs1 hD hM hx1 hN hev2 hev8 hz0 hz00 hr0
  obtain ⟨W3, hW3⟩ : ∃ W3, w2.alloc (.cells #[.int .i64 (N : Int), .slice A1 c.bs.length c1, .int .i64 c.wi, .slice A2 c.cl.length c2] 26) = W3 := ⟨_, rfl⟩
  have xa : Ext w2 W3 := by rw [← hW3]; exact Ext.alloc (Ext.refl _) _
  have G3 : W3.heap[w2.heap.size]? = some (.cells #[.int .i64 (N : Int), .slice A1 c.bs.length c1, .int .i64 c.wi, .slice A2 c.cl.length c2] 26 (0, 0)) := by rw [← hW3]; exact World.alloc_heap_new _ _
  obtain ⟨q0, q1, q2, q3⟩ : W3.cell? ⟨w2.heap.size, 0, none⟩ = some (.int .i64 (N : Int)) ∧ W3.cell? ⟨w2.heap.size, 1, none⟩ = some (.slice A1 c.bs.length c1) ∧ W3.cell? ⟨w2.heap.size, 2, none⟩ = some (.int .i64 c.wi) ∧ W3.cell? ⟨w2.heap.size, 3, none⟩ = some (.slice A2 c.cl.length c2) := ⟨block_cell (i := 0) G3, block_cell (i := 1) G3, block_cell (i := 2) G3, block_cell (i := 3) G3⟩
  go_wp2_with fail
  try rw [hW3]
  clear hW3 q0 q1 q2 q3
  obtain ⟨Bc, hBc⟩ : ∃ Bc, w2.heap.size = Bc := ⟨_, rfl⟩
  rw [hBc] at G3 ⊢
  clear hBc
  have hBc3 : Bc < W3.heap.size := (Array.getElem?_eq_some_iff.1 G3).1
  have FC : Hid (∀ w', Ext W3 w' → w'.cell? ⟨Bc, 0, none⟩ = some (.int .i64 (N : Int)) ∧ w'.cell? ⟨Bc, 1, none⟩ = some (.slice A1 c.bs.length c1) ∧ w'.cell? ⟨Bc, 2, none⟩ = some (.int .i64 c.wi) ∧ w'.cell? ⟨Bc, 3, none⟩ = some (.slice A2 c.cl.length c2)) := fun w' h => by
    have G := (Below.block h Bc hBc3).trans G3
    exact ⟨block_cell (i := 0) G, block_cell (i := 1) G, block_cell (i := 2) G, block_cell (i := 3) G⟩
  have HC : Hid (∀ w', Ext W3 w' → CsR w' (.agg #[.int .i64 (N : Int), .slice A1 c.bs.length c1, .int .i64 c.wi, .slice A2 c.cl.length c2]) c) := fun w' h => ⟨A1, c1, A2, c2, by rw [HN.out], (hB.ext xa).ext h, (hC.ext xa).ext h⟩
  have HI : Hid (∀ w', Ext W3 w' → Ints w' (some ⟨rb, ro, none⟩) real) := fun w' h => (hI.ext xa).ext h
  have HX3 := hid (x2.trans xa)
  have HSZ := hid hsz
  have H0 := hid h0
  have HF := hid hf
  have HRL := hid hrl
  have K1 := allw_any _ c W3 (HC.out W3 (Ext.refl _)) hsz
  rw [h0] at K1
  have HK1 := hid K1
  clear hB hC x2 xa G3 hsz h0 hBc3 K1 hI hf hrl
  refine HK1.out.mono ?_
  clear HK1
  rintro e w4 ⟨rA, rfl, h4, hAok, -⟩
  obtain ⟨AL, cL, rfl, hown⟩ := hAok (by first | rfl | trivial)
  have HBL0 := hid (Rd.of_own hown : Bounds w4 AL c.all)
  clear hAok hown
  obtain ⟨q0, q1, q2, q3⟩ := FC.out w4 h4
  go_wp2_with fail
  clear q0 q1 q2 q3
  refine (holdsw_yes _ c (some ⟨rb, ro, none⟩) c3 real w4 (HC.out w4 h4) HSZ.out (HI.out w4 h4) H0.out (by rw [HRL.out, HN.out]) (fun x hx => by have := HRE.out x hx; omega) HZ0.out HTR.out).mono ?_
  rintro e w5 ⟨rfl, h5⟩
  have hx5 := h4.trans h5
  obtain ⟨q0, q1, q2, q3⟩ := FC.out w5 hx5
  have K2 := check_any _ c w5 (HC.out w5 hx5) HSZ.out
  rw [H0.out] at K2
  have HK2 := hid K2
  clear K2
  go_wp2_with fail
  clear q0 q1 q2 q3
  refine HK2.out.mono ?_
  clear HK2
  rintro e w6 ⟨rfl, h6⟩
  have hx6 := hx5.trans h6
  have K3 := holds_any AL cL c.all (some ⟨rb, ro, none⟩) c3 real w6 ((HBL0.out.ext h5).ext h6) (HI.out w6 hx6) (by omega) HIN.out (fun x hx => by have := HRE.out x hx; omega)
  rw [List.all_eq_true.2 HTR.out] at K3
  have HK3 := hid K3
  clear K3
  go_wp2_with fail
  refine HK3.out.mono ?_
  clear HK3
  rintro e w7 ⟨rfl, h7⟩
  have hx7 := hx6.trans h7
  have HBL : Hid (∀ w', Ext w7 w' → Bounds w' AL c.all) := fun w' h => (((HBL0.out.ext h5).ext h6).ext h7).ext h
  have HX37 := hid hx7
  obtain ⟨q0, q1, q2, q3⟩ := FC.out w7 hx7
  clear HBL0 h4 h5 h6 h7 hx5 hx6 hx7
  go_wp2
  clear q0 q1 q2 q3
  go_loopw [65] (fun i wr => ∃ a : Nat, i = .int .i64 (a : Int) ∧ a ≤ N ∧ Ext w7 wr) (fun i _ => N - (intOf i).toNat)
  case atStart => exact ⟨0, rfl, by omega, Ext.refl _⟩
  case round =>
    obtain ⟨a, rfl, ha, hx⟩ := hrel
    by_cases hlt1 : a < N
    · have hlt1' : (a : Int) < (N : Int) := by omega
      obtain ⟨q0, q1, q2, q3⟩ := FC.out wr (HX37.out.trans hx)
      obtain ⟨wo, rfl⟩ : ∃ wo : World, wo = wr := ⟨_, rfl⟩
      go_wp2
      clear q0 q1 q2 q3
      go_loopw [70] (fun i wr => ∃ b : Nat, i = .int .i64 (b : Int) ∧ b ≤ N ∧ Ext w7 wr) (fun i _ => N - (intOf i).toNat)
      case atStart => exact ⟨0, rfl, by omega, hx⟩
      case round =>
        obtain ⟨b, rfl, hb, hx⟩ := hrel
        by_cases hlt2 : b < N
        · have hlt2' : (b : Int) < (N : Int) := by omega
          have hx3 := HX37.out.trans hx
          obtain ⟨q0, q1, q2, q3⟩ := FC.out wr hx3
          have hac : (a : Int) < c.ev := by rw [HN.out]; omega
          have hbc : (b : Int) < c.ev := by rw [HN.out]; omega
          have hok := HDO.out a b hac hbc
          have HRD : Hid (∀ x y : Nat, (x : Int) < c.ev → (y : Int) < c.ev → gapsM allT c x y ≤ 0 → rowC c x y = 0 ∧ RowOK c.all c.ev.toNat x y (gapsM allT c x y)) := fun x y h1 h2 h3 => row_dec H0.out HF.out h1 h2 h3
          obtain ⟨x, hxa⟩ := get_of_lt real a (by have := HRL.out; omega)
          obtain ⟨y, hyb⟩ := get_of_lt real b (by have := HRL.out; omega)
          have HOK := hid hok
          have HGX : Hid (real.getD a 0 = x) := by unfold Hid; simp [List.getD_eq_getElem?_getD, hxa]
          have HGY : Hid (real.getD b 0 = y) := by unfold Hid; simp [List.getD_eq_getElem?_getD, hyb]
          have FR : Hid (∀ w', Ext wr w' → w'.cell? ⟨rb, ro + a, none⟩ = some (.int .i64 x) ∧ w'.cell? ⟨rb, ro + b, none⟩ = some (.int .i64 y)) := fun w' h => by
            obtain ⟨b1, o1, e1, g1⟩ := (HI.out w' (hx3.trans h)).at_ hxa
            obtain ⟨b2, o2, e2, g2⟩ := (HI.out w' (hx3.trans h)).at_ hyb
            cases e1
            cases e2
            exact ⟨g1, g2⟩
          have K := before_any _ c (a : Int) (b : Int) wr (HC.out wr hx3) HSZ.out
          rw [hok.code] at K
          have hkind := hok.kind
          obtain ⟨V, hV⟩ : ∃ V, (beforeOf c (a : Int) (b : Int)).1 = V := ⟨_, rfl⟩
          rw [hV] at K hkind
          have HV := hid hV
          have HK := hid K
          have hr1 : (a : Int) < (real.length : Int) := by have := HRL.out; omega
          have hr2 : (b : Int) < (real.length : Int) := by have := HRL.out; omega
          clear hok hxa hyb K hV hac hbc
          go_wp2_with fail
          refine HK.out.mono ?_
          clear HK q0 q1 q2 q3
          rintro e w8 ⟨rfl, h8⟩
          have hx8 := hx.trans h8
          have hx38 := HX37.out.trans hx8
          rcases hkind with rfl | rfl | rfl
          · -- Maybe
            have hne : a ≠ b := fun e => by have := HOK.out.self e; rw [HV.out] at this; cases this
            have hnb : ((a : Int) == (b : Int)) = false := by simp; omega
            go_wp2
            refine dec_r13z  w8 _ _ _ _ _ _ _ _ _ _ _ _ _ _ _ _ _ _ _ _ _ _ _ _ _ _ _ _ _ _ _ _ _ _ _ _ _ _ _ _ _ _ _ _ _ _ _ _ _ _ _ _ _ _ _ _ _ _ _ _ _ _ _ _ _ _ _ _ _ _ _ _ _ _ _ _ _ _ _ _ _ _ _ _ _ _ _ _ _ _ _ _ _ _ _ _ _ _ _ _ _ _ _ _ _ _ _ _ _ _ _ _ _ _ _ _ _ _ _ _ _ _ _ _ _ _ _ _ _ _ _ _ _ _ _ _ _ _ _ _ _ _ _ _ _ _ _ _ _ _ _ _ _ _ _ _ _ _ _ _ _ _ _ _ _ _ _ _ _ _ _ _ _ _ _ _ _ _ _ _ _ _ _ _ _ _ _ _ _ _ _ _ _ _ _ _ _ _ _ _ _ _ _ _ _ _ _ _ _ _ _ _ _ _ _ _ _ _ _ _ _ _ _ (fun w' h => FR.out w' (h8.trans h)) (by assumption) (by assumption) hnb ?_
            intro y80 y81 y82 y83 y84 y85 y86 y87 y88 y89 y90 y91 y92 y93 y94 y95 y96 y97 y98 y99 y100 y101 y102 y103 y104 y105 y106 y107 y108 y109 y110 y111 y112 y113 y114 y115 y116 y117 y118 y119 w9 hw9
            have hx9 := hx8.trans hw9
            have hx39 := hx38.trans hw9
            clear hx8 hx38 h8
            obtain ⟨q0, q1, q2, q3⟩ := FC.out w9 hx39
            have hMY := HOK.out.maybe HV.out
            have HMY := hid hMY
            obtain ⟨Wk, hWk⟩ : ∃ Wk, w9.alloc (.cells #[.int .i64 (b : Int), .int .i64 (a : Int), .int .i64 (-1), .int .i64 (a : Int), .int .i64 (b : Int), .int .i64 0] 35) = Wk := ⟨_, rfl⟩
            have hxk : Ext w9 Wk := by rw [← hWk]; exact Ext.alloc (Ext.refl _) _
            have GK : Wk.heap[w9.heap.size]? = some (.cells #[.int .i64 (b : Int), .int .i64 (a : Int), .int .i64 (-1), .int .i64 (a : Int), .int .i64 (b : Int), .int .i64 0] 35 (0, 0)) := by rw [← hWk]; exact World.alloc_heap_new _ _
            clear hMY q0 q1 q2 q3
            go_wp2
            try rw [hWk]
            clear hWk
            obtain ⟨Bk, hBk⟩ : ∃ Bk, w9.heap.size = Bk := ⟨_, rfl⟩
            rw [hBk] at GK ⊢
            have hx7k := hx9.trans hxk
            have hBkl : Bk < Wk.heap.size := (Array.getElem?_eq_some_iff.1 GK).1
            have FK : Hid (∀ w', Ext Wk w' → ∀ s : Nat, s < 2 → ∃ x : Bd, (x = ⟨(b : Int), (a : Int), -1⟩ ∨ x = ⟨(a : Int), (b : Int), 0⟩) ∧ w'.cell? ⟨Bk, s * 3, none⟩ = some (.int .i64 x.f) ∧ w'.cell? ⟨Bk, s * 3 + 1, none⟩ = some (.int .i64 x.t) ∧ w'.cell? ⟨Bk, s * 3 + 2, none⟩ = some (.int .i64 x.m)) := fun w' h s hs => by
              have G := (Below.block h Bk hBkl).trans GK
              have h2 : s = 0 ∨ s = 1 := by omega
              rcases h2 with rfl | rfl
              · exact ⟨⟨(b : Int), (a : Int), -1⟩, .inl rfl, block_cell (i := 0) G, block_cell (i := 1) G, block_cell (i := 2) G⟩
              · exact ⟨⟨(a : Int), (b : Int), 0⟩, .inr rfl, block_cell (i := 3) G, block_cell (i := 4) G, block_cell (i := 5) G⟩
            clear hBk hxk GK
            go_loopw [178] (fun i wr => ∃ s : Nat, i = .int .i64 (s : Int) ∧ s ≤ 2 ∧ Ext Wk wr) (fun i _ => 2 - (intOf i).toNat)
            case atStart => exact ⟨0, rfl, by omega, Ext.refl _⟩
            case round =>
              obtain ⟨s, rfl, hs, hxs⟩ := hrel
              by_cases hs2 : s < 2
              · have hs2' : (s : Int) < 2 := by omega
                obtain ⟨x, hxx, g0, g1, g2⟩ := FK.out wr hxs s hs2
                obtain ⟨htb, htc⟩ := HMY.out x hxx
                have HTBC := hid htb
                have HTLC := hid htc
                have hx7s := hx7k.trans hxs
                obtain ⟨Wx, hWx⟩ : ∃ Wx, wr.alloc (.cells #[.int .i64 x.f, .int .i64 x.t, .int .i64 x.m] 35) = Wx := ⟨_, rfl⟩
                have hxx2 : Ext wr Wx := by rw [← hWx]; exact Ext.alloc (Ext.refl _) _
                obtain ⟨Bx, hBx⟩ : ∃ Bx, wr.heap.size = Bx := ⟨_, rfl⟩
                have GX : Wx.heap[Bx]? = some (.cells #[.int .i64 x.f, .int .i64 x.t, .int .i64 x.m] 35 (0, 0)) := by rw [← hWx, ← hBx]; exact World.alloc_heap_new _ _
                have hBxl : Bx < Wx.heap.size := (Array.getElem?_eq_some_iff.1 GX).1
                have FX : Hid (∀ w', Ext Wx w' → w'.cell? ⟨Bx, 0, none⟩ = some (.int .i64 x.f) ∧ w'.cell? ⟨Bx, 1, none⟩ = some (.int .i64 x.t) ∧ w'.cell? ⟨Bx, 2, none⟩ = some (.int .i64 x.m)) := fun w' h => by
                  have G := (Below.block h Bx hBxl).trans GX
                  exact ⟨block_cell (i := 0) G, block_cell (i := 1) G, block_cell (i := 2) G⟩
                have hx7x := hx7s.trans hxx2
                have HWX := hid hxx2
                obtain ⟨q0, q1, q2, q3⟩ := FC.out Wx (HX37.out.trans hx7x)
                obtain ⟨p0, p1, p2⟩ := FX.out Wx (Ext.refl _)
                clear htb htc hxx2 GX hBxl
                go_wp2_with fail
                clear p0 p1 p2 q0 q1 q2 q3 g0 g1 g2
                try rw [hWx]
                try rw [hBx]
                clear hWx hBx
                refine Calls.mono (toldb_any _ c x Wx (HC.out Wx (HX37.out.trans hx7x)) HSZ.out) ?_
                rintro e w11 ⟨r, rfl, h11, -, hfr⟩
                rw [HTBC.out]
                obtain ⟨A1', c1', A2', c2', xs', hr', o1, o2, o3⟩ := hfr HTBC.out
                subst hr'
                have hCR : CsR w11 (.agg #[.int .i64 (c.add x).ev, .slice A1' (c.add x).bs.length c1', .int .i64 (c.add x).wi, .slice A2' (c.add x).cl.length c2']) (c.add x) := ⟨A1', c1', A2', c2', rfl, Rd.of_own o1, xs', Rd.of_own o2, o3.toC⟩
                obtain ⟨u, hu⟩ : ∃ u, c.add x = u := ⟨_, rfl⟩
                have hev : u.ev = c.ev := by rw [← hu]; rfl
                have hus : u.sized := by rw [← hu]; exact add_sized HSZ.out x HBS.out
                have HTU : Hid (toldC u = 0) := by rw [← hu]; exact HTLC.out
                have HUA : Hid (∀ y, y ∈ u.all ↔ y ∈ c.all ∨ y = x) := fun y => by rw [← hu]; exact add_all_mem
                rw [hu] at hCR ⊢
                clear hfr o1 o2 o3 hu
                have HUS := hid hus
                have HUE := hid hev
                clear hus hev
                obtain ⟨Wu, hWu⟩ : ∃ Wu, w11.alloc (.cells #[.int .i64 u.ev, .slice A1' u.bs.length c1', .int .i64 u.wi, .slice A2' u.cl.length c2'] 26) = Wu := ⟨_, rfl⟩
                have hxu : Ext w11 Wu := by rw [← hWu]; exact Ext.alloc (Ext.refl _) _
                have GU : Wu.heap[w11.heap.size]? = some (.cells #[.int .i64 u.ev, .slice A1' u.bs.length c1', .int .i64 u.wi, .slice A2' u.cl.length c2'] 26 (0, 0)) := by rw [← hWu]; exact World.alloc_heap_new _ _
                have u0 := block_cell (i := 0) GU
                have u1 := block_cell (i := 1) GU
                have u2 := block_cell (i := 2) GU
                have u3 := block_cell (i := 3) GU
                simp only [List.getElem?_toArray, List.getElem?_cons_zero, List.getElem?_cons_succ] at u0 u1 u2 u3
                go_wp2_with fail
                clear u0 u1 u2 u3 GU
                try rw [hWu]
                clear hWu
                refine (truth_any _ u Wu (hCR.ext hxu) HUS.out).mono ?_
                rintro e Wb ⟨r, rfl, h12, htr, -⟩
                rw [HTU.out]
                obtain ⟨Bt, hre, hBt, hIt⟩ := htr HTU.out
                subst hre
                have hten : u.ev.toNat = N := by rw [HUE.out, HN.out]; simp
                rw [hten]
                obtain ⟨tr, htre⟩ : ∃ tr, truthL u = tr := ⟨_, rfl⟩
                have HTK := hid (truth_ok HTU.out)
                have HTL : Hid (tr.length = N) := by unfold Hid; rw [← htre, truthL_len, hten]
                rw [htre] at hIt HTK
                have HT0 := hid HTK.out.1
                have HTB : Hid (∀ z ∈ tr, -1000000 ≤ z ∧ z ≤ 1000000) := fun z hz => by have := HTK.out.2.1 z hz; omega
                have HAL : Hid ((c.all ++ [x]).all (bdHolds tr) = true) := by
                  unfold Hid
                  rw [List.all_eq_true]
                  intro y hy
                  have h1 := HTK.out.2.2 y ((HUA.out y).2 (by rw [List.mem_append] at hy; rcases hy with h | h; exact .inl h; exact .inr (by simpa using h)))
                  unfold bdHolds
                  simpa using h1
                have HBI : Hid (∀ y ∈ c.all ++ [x], bdIn tr.length y) := fun y hy => by
                  rw [List.mem_append] at hy
                  rcases hy with h | h
                  · have := HIN.out y h
                    rw [HTL.out]
                    have h2 : real.length = N := by have := HRL.out; omega
                    rw [← h2]; exact this
                  · obtain rfl : y = x := by simpa using h
                    rw [HTL.out]
                    rcases hxx with rfl | rfl
                    · refine ⟨⟨?_, ?_⟩, ⟨?_, ?_⟩, ?_, ?_⟩ <;> simp only <;> omega
                    · refine ⟨⟨?_, ?_⟩, ⟨?_, ?_⟩, ?_, ?_⟩ <;> simp only <;> omega
                have hxb : Ext w7 Wb := ((hx7x.trans h11).trans hxu).trans h12
                have hxxb : Ext Wx Wb := (h11.trans hxu).trans h12
                have ht0 := hIt.at_ HT0.out
                have HIT : Hid (∀ w', Ext Wb w' → Ints w' (some ⟨Bt, 0, none⟩) tr) := fun w' h => hIt.ints.ext h
                have FD : Hid (∀ w', Ext Wb w' → w'.cell? ⟨Bx, 0, none⟩ = some (.int .i64 x.f) ∧ w'.cell? ⟨Bx, 1, none⟩ = some (.int .i64 x.t) ∧ w'.cell? ⟨Bx, 2, none⟩ = some (.int .i64 x.m) ∧ w'.cell? ⟨Bc, 0, none⟩ = some (.int .i64 (N : Int)) ∧ w'.cell? ⟨Bt, 0, none⟩ = some (.int .i64 0)) := fun w' h => by
                  obtain ⟨a0, a1, a2⟩ := FX.out w' (hxxb.trans h)
                  exact ⟨a0, a1, a2, (FC.out w' (HX37.out.trans (hxb.trans h))).1, h.cell ht0⟩
                have hN0 : (0 : Int) < (N : Int) := by omega
                have hN0' : 0 < N := by omega
                have hxend := hxs.trans HWX.out |>.trans hxxb
                clear htr htre hIt h11 h12 hxu hx7x hx7s hxxb ht0 hCR HTK HT0 FX
                go_wp2
                refine wp_region_shut (LaidS Wb.heap.size 35 3 c.all.length (bcells c.all) x.cells) (fun w' => LaidS Wb.heap.size 35 3 c.all.length (bcells c.all) x.cells Wb w') (fun | 21 => some (fun v w' => ∃ g q, v = .slice (some ⟨g, 0, none⟩) c.all.length q ∧ w'.ownsRow Wb.heap.size 35 3 (.slice (some ⟨g, 0, none⟩) c.all.length q) c.all.length (bcells c.all)) | 23 => some (fun v w' => ∃ B', v = .slice (some ⟨B', 0, none⟩) 1 1 ∧ Rd0 w' B' x.cells) | 24 => some (fun v w' => ∃ g q, v = .slice (some ⟨g, 0, none⟩) (c.all ++ [x]).length q ∧ Rd0 w' g (bcells c.all ++ x.cells)) | 26 => some (fun v _ => v = .bool true) | _ => none) (by kernel_rfl) (by kernel_rfl) (fun _ _ h k => h.trans k) ?hTm (LaidS.of_ext (Ext.drew (Ext.refl Wb)) (Nat.le_refl _)) ?_
                case hTm =>
                  intro i R hR
                  match i, hR with
                  | 21, hR => cases hR; exact fun _ _ _ ⟨g, q, e, h⟩ k => ⟨g, q, e, k.2.1 _ h⟩
                  | 23, hR => cases hR; exact fun _ _ _ ⟨B', e, h⟩ k => ⟨B', e, k.2.2.2 _ h⟩
                  | 24, hR => cases hR; exact fun _ _ _ ⟨g, q, e, h⟩ k => ⟨g, q, e, k.2.2.1 _ h⟩
                  | 26, hR => cases hR; exact fun _ _ _ h _ => h
                refine wM_val ?um0 rfl rfl LaidS.refl (fun w' hD => ?hm0) (fun phm0 => ?nm0)
                case hm0 =>
                  obtain ⟨d0, d1, d2, d3, d4⟩ := FD.out _ hD.1.1
                  go_simp; rfl
                simp only [Act.put, List.setIfInBounds_toArray, List.set_cons_succ, List.set_cons_zero, Nat.reduceAdd]
                refine wM_val ?um1 rfl rfl LaidS.refl (fun w' hD => ?hm1) (fun phm1 => ?nm1)
                case hm1 =>
                  obtain ⟨d0, d1, d2, d3, d4⟩ := FD.out _ hD.1.1
                  go_simp; rfl
                simp only [Act.put, List.setIfInBounds_toArray, List.set_cons_succ, List.set_cons_zero, Nat.reduceAdd]
                refine wM_val ?um2 rfl rfl LaidS.refl (fun w' hD => ?hm2) (fun phm2 => ?nm2)
                case hm2 =>
                  obtain ⟨d0, d1, d2, d3, d4⟩ := FD.out _ hD.1.1
                  go_simp; rfl
                simp only [Act.put, List.setIfInBounds_toArray, List.set_cons_succ, List.set_cons_zero, Nat.reduceAdd]
                refine wM_val ?um3 rfl rfl LaidS.refl (fun w' hD => ?hm3) (fun phm3 => ?nm3)
                case hm3 =>
                  obtain ⟨d0, d1, d2, d3, d4⟩ := FD.out _ hD.1.1
                  go_simp; rfl
                simp only [Act.put, List.setIfInBounds_toArray, List.set_cons_succ, List.set_cons_zero, Nat.reduceAdd]
                refine wM_val ?um4 rfl rfl LaidS.refl (fun w' hD => ?hm4) (fun phm4 => ?nm4)
                case hm4 =>
                  obtain ⟨d0, d1, d2, d3, d4⟩ := FD.out _ hD.1.1
                  go_simp; rfl
                simp only [Act.put, List.setIfInBounds_toArray, List.set_cons_succ, List.set_cons_zero, Nat.reduceAdd]
                refine wM_val ?um5 rfl rfl LaidS.refl (fun w' hD => ?hm5) (fun phm5 => ?nm5)
                case hm5 =>
                  obtain ⟨d0, d1, d2, d3, d4⟩ := FD.out _ hD.1.1
                  go_simp; rfl
                simp only [Act.put, List.setIfInBounds_toArray, List.set_cons_succ, List.set_cons_zero, Nat.reduceAdd]
                refine wM_val ?um6 rfl rfl LaidS.refl (fun w' hD => ?hm6) (fun phm6 => ?nm6)
                case hm6 =>
                  obtain ⟨d0, d1, d2, d3, d4⟩ := FD.out _ hD.1.1
                  go_simp; rfl
                simp only [Act.put, List.setIfInBounds_toArray, List.set_cons_succ, List.set_cons_zero, Nat.reduceAdd]
                refine wM_val ?um7 rfl rfl LaidS.refl (fun w' hD => ?hm7) (fun phm7 => ?nm7)
                case hm7 =>
                  obtain ⟨d0, d1, d2, d3, d4⟩ := FD.out _ hD.1.1
                  go_simp; rfl
                simp only [Act.put, List.setIfInBounds_toArray, List.set_cons_succ, List.set_cons_zero, Nat.reduceAdd]
                refine wM_val ?um8 rfl rfl LaidS.refl (fun w' hD => ?hm8) (fun phm8 => ?nm8)
                case hm8 =>
                  obtain ⟨d0, d1, d2, d3, d4⟩ := FD.out _ hD.1.1
                  go_simp; rfl
                simp only [Act.put, List.setIfInBounds_toArray, List.set_cons_succ, List.set_cons_zero, Nat.reduceAdd]
                refine wM_val ?um9 rfl rfl LaidS.refl (fun w' hD => ?hm9) (fun phm9 => ?nm9)
                case hm9 =>
                  obtain ⟨d0, d1, d2, d3, d4⟩ := FD.out _ hD.1.1
                  go_simp; rfl
                simp only [Act.put, List.setIfInBounds_toArray, List.set_cons_succ, List.set_cons_zero, Nat.reduceAdd]
                refine wM_val ?um10 rfl rfl LaidS.refl (fun w' hD => ?hm10) (fun phm10 => ?nm10)
                case hm10 =>
                  obtain ⟨d0, d1, d2, d3, d4⟩ := FD.out _ hD.1.1
                  go_simp; rfl
                simp only [Act.put, List.setIfInBounds_toArray, List.set_cons_succ, List.set_cons_zero, Nat.reduceAdd]
                refine wM_val ?um11 rfl rfl LaidS.refl (fun w' hD => ?hm11) (fun phm11 => ?nm11)
                case hm11 =>
                  obtain ⟨d0, d1, d2, d3, d4⟩ := FD.out _ hD.1.1
                  go_simp; rfl
                simp only [Act.put, List.setIfInBounds_toArray, List.set_cons_succ, List.set_cons_zero, Nat.reduceAdd]
                refine wM_val ?um12 rfl rfl LaidS.refl (fun w' hD => ?hm12) (fun phm12 => ?nm12)
                case hm12 =>
                  obtain ⟨d0, d1, d2, d3, d4⟩ := FD.out _ hD.1.1
                  go_simp; rfl
                simp only [Act.put, List.setIfInBounds_toArray, List.set_cons_succ, List.set_cons_zero, Nat.reduceAdd]
                refine wM_val ?um13 rfl rfl LaidS.refl (fun w' hD => ?hm13) (fun phm13 => ?nm13)
                case hm13 =>
                  obtain ⟨d0, d1, d2, d3, d4⟩ := FD.out _ hD.1.1
                  go_simp; rfl
                simp only [Act.put, List.setIfInBounds_toArray, List.set_cons_succ, List.set_cons_zero, Nat.reduceAdd]
                refine wM_val ?um14 rfl rfl LaidS.refl (fun w' hD => ?hm14) (fun phm14 => ?nm14)
                case hm14 =>
                  obtain ⟨d0, d1, d2, d3, d4⟩ := FD.out _ hD.1.1
                  go_simp; rfl
                simp only [Act.put, List.setIfInBounds_toArray, List.set_cons_succ, List.set_cons_zero, Nat.reduceAdd]
                refine wM_val ?um15 rfl rfl LaidS.refl (fun w' hD => ?hm15) (fun phm15 => ?nm15)
                case hm15 =>
                  obtain ⟨d0, d1, d2, d3, d4⟩ := FD.out _ hD.1.1
                  go_simp; rfl
                simp only [Act.put, List.setIfInBounds_toArray, List.set_cons_succ, List.set_cons_zero, Nat.reduceAdd]
                refine wM_val ?um16 rfl rfl LaidS.refl (fun w' hD => ?hm16) (fun phm16 => ?nm16)
                case hm16 =>
                  obtain ⟨d0, d1, d2, d3, d4⟩ := FD.out _ hD.1.1
                  go_simp; rfl
                simp only [Act.put, List.setIfInBounds_toArray, List.set_cons_succ, List.set_cons_zero, Nat.reduceAdd]
                refine wM_val ?um17 rfl rfl LaidS.refl (fun w' hD => ?hm17) (fun phm17 => ?nm17)
                case hm17 =>
                  obtain ⟨d0, d1, d2, d3, d4⟩ := FD.out _ hD.1.1
                  go_simp; rfl
                simp only [Act.put, List.setIfInBounds_toArray, List.set_cons_succ, List.set_cons_zero, Nat.reduceAdd]
                refine wM_val ?um18 rfl rfl LaidS.refl (fun w' hD => ?hm18) (fun phm18 => ?nm18)
                case hm18 =>
                  obtain ⟨d0, d1, d2, d3, d4⟩ := FD.out _ hD.1.1
                  go_simp; rfl
                simp only [Act.put, List.setIfInBounds_toArray, List.set_cons_succ, List.set_cons_zero, Nat.reduceAdd]
                refine wM_val ?um19 rfl rfl LaidS.refl (fun w' hD => ?hm19) (fun phm19 => ?nm19)
                case hm19 =>
                  obtain ⟨d0, d1, d2, d3, d4⟩ := FD.out _ hD.1.1
                  go_simp; rfl
                simp only [Act.put, List.setIfInBounds_toArray, List.set_cons_succ, List.set_cons_zero, Nat.reduceAdd]
                refine wM_val ?um20 rfl rfl LaidS.refl (fun w' hD => ?hm20) (fun phm20 => ?nm20)
                case hm20 =>
                  obtain ⟨d0, d1, d2, d3, d4⟩ := FD.out _ hD.1.1
                  go_simp; rfl
                simp only [Act.put, List.setIfInBounds_toArray, List.set_cons_succ, List.set_cons_zero, Nat.reduceAdd]
                refine wM_op _ rfl rfl (opens_call ?fm21 ?gm21 (fun w' hD => ?hm21) (fun w' hD => ?cm21)) (fun v21 hv21 => ?nm21)
                case hm21 => go_simp; constructor <;> rfl
                case cm21 =>
                  refine (dup_bound AL cL c.all w' (HBL.out w' (hxb.trans hD.1.1)) (by omega)).mono ?_
                  rintro e w2 ⟨g, q, rfl, ho, hb⟩
                  exact ⟨_, rfl, LaidS.of_ext hb hD.1.1.size, g, q, rfl, own_base ho hD.1.1.size⟩
                obtain ⟨_, -, -, g21, q21, rfl, -⟩ := hv21
                simp only [Act.put, List.setIfInBounds_toArray, List.set_cons_succ, List.set_cons_zero, Nat.reduceAdd]
                refine wM_val ?um22 rfl rfl LaidS.refl (fun w' hD => ?hm22) (fun phm22 => ?nm22)
                case hm22 =>
                  obtain ⟨d0, d1, d2, d3, d4⟩ := FD.out _ hD.1.1
                  go_simp; rfl
                simp only [Act.put, List.setIfInBounds_toArray, List.set_cons_succ, List.set_cons_zero, Nat.reduceAdd]
                refine wM_op _ rfl rfl (opens_val (fun w' hD => ?hm23)) (fun vm23 hvm23 => ?nm23)
                case hm23 =>
                  obtain ⟨d0, d1, d2, d3, d4⟩ := FD.out _ hD.1.1
                  refine ⟨.slice (some ⟨w'.heap.size, 0, none⟩) 1 1, w'.alloc (.cells #[.int .i64 x.f, .int .i64 x.t, .int .i64 x.m] 35), ?_, LaidS.of_ext (Ext.alloc (Ext.refl _) _) hD.1.1.size, w'.heap.size, rfl, ?_⟩
                  · go_simp
                  · intro j u hu
                    have h := rd_block (heap_alloc_new w' (.cells #[.int .i64 x.f, .int .i64 x.t, .int .i64 x.m] 35)) (xs := x.cells)
                    rcases h with h | ⟨b9, o9, e9, h9⟩
                    · cases h
                    · cases e9
                      have := h9 j u hu
                      rwa [Nat.zero_add] at this
                obtain ⟨_, -, -, B23, rfl, -⟩ := hvm23
                simp only [Act.put, List.setIfInBounds_toArray, List.set_cons_succ, List.set_cons_zero, Nat.reduceAdd]
                refine wM_op _ rfl rfl (opens_val (fun w' hD => ?hm24)) (fun vm24 hvm24 => ?nm24)
                case hm24 =>
                  obtain ⟨-, g21', q21', e21, ho⟩ := hD.get 21 (by first | kernel_rfl | simp [Region.binds])
                  cases e21
                  obtain ⟨-, B23', e23, hb23⟩ := hD.get 23 (by first | kernel_rfl | simp [Region.binds])
                  cases e23
                  have hsz2 := hD.1.1.size
                  obtain ⟨A5, c5, w5, hrun, ho5, hk5⟩ := run_append_keep (P := Try.prog) w' 23 23 35 3 24 elem_bound Wb.heap.size _ c.all.length _ ho ⟨B23, 0, none⟩ 1 1 x.cells rfl (fun j u hu => by rw [Addr.add_lit, Nat.zero_add]; exact hb23 j u hu) (bcells_one [x]) (by omega) hsz2 (by omega)
                  obtain ⟨g5, rfl⟩ : ∃ g5, A5 = some ⟨g5, 0, none⟩ := own_someS ho5
                  refine ⟨.slice (some ⟨g5, 0, none⟩) (c.all ++ [x]).length c5, w5, ?_, ?_, g5, c5, rfl, rd0_ownS ho5⟩
                  · rw [List.length_append, List.length_singleton]
                    exact exec_append w' _ (.tmp 214) (.tmp 216) 23 rfl _ _ rfl rfl _ _ hrun
                  · rcases hk5 with h | ⟨g, cap, e6, e7, rfl, _, hg⟩
                    · exact LaidS.of_ext h hsz2
                    · cases e6; cases e7
                      exact LaidS.of_grown (bcells_len _) rfl ho ho5 hg
                obtain ⟨_, -, -, g24, c24, rfl, -⟩ := hvm24
                simp only [Act.put, List.setIfInBounds_toArray, List.set_cons_succ, List.set_cons_zero, Nat.reduceAdd]
                refine wM_val ?um25 rfl rfl LaidS.refl (fun w' hD => ?hm25) (fun phm25 => ?nm25)
                case hm25 =>
                  obtain ⟨d0, d1, d2, d3, d4⟩ := FD.out _ hD.1.1
                  go_simp; rfl
                simp only [Act.put, List.setIfInBounds_toArray, List.set_cons_succ, List.set_cons_zero, Nat.reduceAdd]
                refine wM_op _ rfl rfl (opens_call ?fm26 ?gm26 (fun w' hD => ?hm26) (fun w' hD => ?cm26)) (fun v26 hv26 => ?nm26)
                case hm26 => go_simp; constructor <;> rfl
                case cm26 =>
                  obtain ⟨-, g24', c24', e24, hr24⟩ := hD.get 24 (by first | kernel_rfl | simp [Region.binds])
                  cases e24
                  have hbq : Bounds w' (some ⟨g24, 0, none⟩) (c.all ++ [x]) := by unfold Bounds; rw [bcells_app]; exact hr24.rd
                  have K9 := holds_any (some ⟨g24, 0, none⟩) c24 (c.all ++ [x]) (some ⟨Bt, 0, none⟩) N tr w' hbq (HIT.out w' hD.1.1) (by simp; omega) HBI.out HTB.out
                  rw [HAL.out, HTL.out, show (c.all ++ [x]).length = c.all.length + 1 by simp] at K9
                  refine K9.mono ?_
                  rintro e w2 ⟨rfl, hb⟩
                  exact ⟨_, rfl, LaidS.of_ext hb hD.1.1.size, rfl⟩
                obtain ⟨_, -, -, rfl⟩ := hv26
                simp only [Act.put, List.setIfInBounds_toArray, List.set_cons_succ, List.set_cons_zero, Nat.reduceAdd]
                refine wM_val ?um27 rfl rfl LaidS.refl (fun w' hD => ?hm27) (fun phm27 => ?nm27)
                case hm27 =>
                  obtain ⟨d0, d1, d2, d3, d4⟩ := FD.out _ hD.1.1
                  go_simp; rfl
                simp only [Act.put, List.setIfInBounds_toArray, List.set_cons_succ, List.set_cons_zero, Nat.reduceAdd]
                refine wM_val ?um28 rfl rfl LaidS.refl (fun w' hD => ?hm28) (fun phm28 => ?nm28)
                case hm28 =>
                  obtain ⟨d0, d1, d2, d3, d4⟩ := FD.out _ hD.1.1
                  go_simp; rfl
                simp only [Act.put, List.setIfInBounds_toArray, List.set_cons_succ, List.set_cons_zero, Nat.reduceAdd]
                refine wM_nil ?_
                intro w13 hw13 hF13
                have hxf : Ext Wk w13 := Below.trans hxend (Below.mono hw13.1 hxend.size)
                clear hF13 hxend
                go_wp2
                go_roundw
                case rel => exact ⟨s + 1, by go_num, by omega, hxf⟩
                case measure => simp [intOf]; omega
              · have hs2' : ¬ (s : Int) < 2 := by omega
                go_wp2
                go_roundw
                case rel => exact ⟨b + 1, by go_num, by omega, hx7k.trans hxs⟩
                case measure => simp [intOf]; omega
          · -- Yes
            obtain ⟨hgx, hgg⟩ := HOK.out.yes HV.out
            rw [HGX.out, HGY.out] at hgx
            have hne : a ≠ b := fun e => by have := HOK.out.self e; rw [HV.out] at this; cases this
            have hnb : ((a : Int) == (b : Int)) = false := by simp; omega
            have hge : decide (y ≤ x) = false := by simp; omega
            go_wp2
            refine dec_r13y  w8 _ _ _ _ _ _ _ _ _ _ _ _ _ _ _ _ _ _ _ _ _ _ _ _ _ _ _ _ _ _ _ _ _ _ _ _ _ _ _ _ _ _ _ _ _ _ _ _ _ _ _ _ _ _ _ _ _ _ _ _ _ _ _ _ _ _ _ _ _ _ _ _ _ _ _ _ _ _ _ _ _ _ _ _ _ _ _ _ _ _ _ _ _ _ _ _ _ _ _ _ _ _ _ _ _ _ _ _ _ _ _ _ _ _ _ _ _ _ _ _ _ _ _ _ _ _ _ _ _ _ _ _ _ _ _ _ _ _ _ _ _ _ _ _ _ _ _ _ _ _ _ _ _ _ _ _ _ _ _ _ _ _ _ _ _ _ _ _ _ _ _ _ _ _ _ _ _ _ _ _ _ _ _ _ _ _ _ _ _ _ _ _ _ _ _ _ _ _ _ _ _ _ _ _ _ _ _ _ _ _ _ _ _ _ _ _ _ _ _ _ _ _ _ (fun w' h => FR.out w' (h8.trans h)) (by assumption) (by assumption) hge hnb ?_
            intro y80 y81 y82 y83 y84 y85 y86 y87 y88 y89 y90 y91 y92 y93 y94 y95 y96 y97 y98 y99 y100 y101 y102 y103 y104 y105 y106 y107 y108 y109 y110 y111 y112 y113 y114 y115 y116 y117 y118 y119 w9 hw9
            have hx9 := hx8.trans hw9
            have hx39 := hx38.trans hw9
            clear hx8 hx38 h8
            obtain ⟨q0, q1, q2, q3⟩ := FC.out w9 hx39
            obtain ⟨hrc, hrk⟩ := HRD.out b a (by rw [HN.out]; omega) (by rw [HN.out]; omega) (by omega)
            obtain ⟨g, hg⟩ : ∃ g, gapsM allT c b a = g := ⟨_, rfl⟩
            rw [hg] at hrk hgg
            have HRK := hid hrk
            have HRC := hid hrc
            have hgt : decide (g > -1) = false := by simp; omega
            clear hrk hrc hg
            go_wp2_with fail
            clear q0 q1 q2 q3
            refine Calls.mono (rowa_any _ c (b : Int) (a : Int) w9 (HC.out w9 hx39) HSZ.out) ?_
            rintro e w10 ⟨rr, rfl, h10, -, hro⟩
            obtain ⟨Ar, kr, rfl, hIr⟩ := hro HRC.out
            have hx10 := hx9.trans h10
            rw [HRC.out]
            simp only [Int.toNat_natCast] at hIr ⊢
            obtain ⟨row, hrow⟩ : ∃ row, rowL c.all c.ev.toNat b a = row := ⟨_, rfl⟩
            rw [hrow] at hIr ⊢
            have HRO := hid hrow
            have HIR := hid hIr
            have hrln : row.length ≤ 7 := by rw [← hrow]; exact HRK.out.len
            clear hrow hIr hro
            go_wp2_with fail
            refine (sum_any AL cL c.all Ar kr row (b : Int) (a : Int) (a : Int) g w10 (HBL.out w10 hx10) HIR.out (by omega) (by omega) HM2.out (by rw [← HRO.out]; exact HRK.out.in_) (by rw [← HRO.out]; exact HRK.out.sum)).mono ?_
            rintro e w11 ⟨rfl, h11⟩
            have hyy : ((a : Int) == (a : Int)) = true := by simp
            rw [hyy]
            go_wp2
            go_roundw
            case rel => exact ⟨b + 1, by go_num, by omega, hx10.trans h11⟩
            case measure => simp [intOf]; omega
          · -- No
            obtain ⟨hgx, hgg⟩ := HOK.out.no HV.out
            rw [HGX.out, HGY.out] at hgx
            have hge : decide (x < y) = false := by simp; omega
            by_cases hab : a = b
            · subst hab
              have hnb : ((a : Int) == (a : Int)) = true := by simp
              go_wp2
              refine dec_r13e (y := x) (b := a) w8 _ _ _ _ _ _ _ _ _ _ _ _ _ _ _ _ _ _ _ _ _ _ _ _ _ _ _ _ _ _ _ _ _ _ _ _ _ _ _ _ _ _ _ _ _ _ _ _ _ _ _ _ _ _ _ _ _ _ _ _ _ _ _ _ _ _ _ _ _ _ _ _ _ _ _ _ _ _ _ _ _ _ _ _ _ _ _ _ _ _ _ _ _ _ _ _ _ _ _ _ _ _ _ _ _ _ _ _ _ _ _ _ _ _ _ _ _ _ _ _ _ _ _ _ _ _ _ _ _ _ _ _ _ _ _ _ _ _ _ _ _ _ _ _ _ _ _ _ _ _ _ _ _ _ _ _ _ _ _ _ _ _ _ _ _ _ _ _ _ _ _ _ _ _ _ _ _ _ _ _ _ _ _ _ _ _ _ _ _ _ _ _ _ _ _ _ _ _ _ _ _ _ _ _ _ _ _ _ _ _ _ _ _ _ _ _ _ _ _ _ _ _ _ (fun w' h => ⟨(FR.out w' (h8.trans h)).1, (FR.out w' (h8.trans h)).1⟩) (by assumption) (by assumption) (by simp) ?_
              intro y80 y81 y82 y83 y84 y85 y86 y87 y88 y89 y90 y91 y92 y93 y94 y95 y96 y97 y98 y99 y100 y101 y102 y103 y104 y105 y106 y107 y108 y109 y110 y111 y112 y113 y114 y115 y116 y117 y118 y119 w9 hw9
              have hx9 := hx8.trans hw9
              have hx39 := hx38.trans hw9
              clear hx8 hx38 h8
              obtain ⟨q0, q1, q2, q3⟩ := FC.out w9 hx39
              obtain ⟨hrc, hrk⟩ := HRD.out a a (by rw [HN.out]; omega) (by rw [HN.out]; omega) (by omega)
              obtain ⟨g, hg⟩ : ∃ g, gapsM allT c a a = g := ⟨_, rfl⟩
              rw [hg] at hrk hgg
              have HRK := hid hrk
              have HRC := hid hrc
              have hgt : decide (g > 0) = false := by simp; omega
              clear hrk hrc hg
              go_wp2_with fail
              clear q0 q1 q2 q3
              refine Calls.mono (rowa_any _ c (a : Int) (a : Int) w9 (HC.out w9 hx39) HSZ.out) ?_
              rintro e w10 ⟨rr, rfl, h10, -, hro⟩
              obtain ⟨Ar, kr, rfl, hIr⟩ := hro HRC.out
              have hx10 := hx9.trans h10
              rw [HRC.out]
              simp only [Int.toNat_natCast] at hIr ⊢
              obtain ⟨row, hrow⟩ : ∃ row, rowL c.all c.ev.toNat a a = row := ⟨_, rfl⟩
              rw [hrow] at hIr ⊢
              have HRO := hid hrow
              have HIR := hid hIr
              have hrln : row.length ≤ 7 := by rw [← hrow]; exact HRK.out.len
              clear hrow hIr hro
              go_wp2_with fail
              refine (sum_any AL cL c.all Ar kr row (a : Int) (a : Int) (a : Int) g w10 (HBL.out w10 hx10) HIR.out (by omega) (by omega) HM2.out (by rw [← HRO.out]; exact HRK.out.in_) (by rw [← HRO.out]; exact HRK.out.sum)).mono ?_
              rintro e w11 ⟨rfl, h11⟩
              have hyy : ((a : Int) == (a : Int)) = true := by simp
              rw [hyy]
              go_wp2
              go_roundw
              case rel => exact ⟨a + 1, by go_num, by omega, hx10.trans h11⟩
              case measure => simp [intOf]; omega
            · have hnb : ((a : Int) == (b : Int)) = false := by simp; omega
              go_wp2
              refine dec_r13n  w8 _ _ _ _ _ _ _ _ _ _ _ _ _ _ _ _ _ _ _ _ _ _ _ _ _ _ _ _ _ _ _ _ _ _ _ _ _ _ _ _ _ _ _ _ _ _ _ _ _ _ _ _ _ _ _ _ _ _ _ _ _ _ _ _ _ _ _ _ _ _ _ _ _ _ _ _ _ _ _ _ _ _ _ _ _ _ _ _ _ _ _ _ _ _ _ _ _ _ _ _ _ _ _ _ _ _ _ _ _ _ _ _ _ _ _ _ _ _ _ _ _ _ _ _ _ _ _ _ _ _ _ _ _ _ _ _ _ _ _ _ _ _ _ _ _ _ _ _ _ _ _ _ _ _ _ _ _ _ _ _ _ _ _ _ _ _ _ _ _ _ _ _ _ _ _ _ _ _ _ _ _ _ _ _ _ _ _ _ _ _ _ _ _ _ _ _ _ _ _ _ _ _ _ _ _ _ _ _ _ _ _ _ _ _ _ _ _ _ _ _ _ _ _ (fun w' h => FR.out w' (h8.trans h)) (by assumption) (by assumption) hge hnb ?_
              intro y80 y81 y82 y83 y84 y85 y86 y87 y88 y89 y90 y91 y92 y93 y94 y95 y96 y97 y98 y99 y100 y101 y102 y103 y104 y105 y106 y107 y108 y109 y110 y111 y112 y113 y114 y115 y116 y117 y118 y119 w9 hw9
              have hx9 := hx8.trans hw9
              have hx39 := hx38.trans hw9
              clear hx8 hx38 h8
              obtain ⟨q0, q1, q2, q3⟩ := FC.out w9 hx39
              obtain ⟨hrc, hrk⟩ := HRD.out a b (by rw [HN.out]; omega) (by rw [HN.out]; omega) (by omega)
              obtain ⟨g, hg⟩ : ∃ g, gapsM allT c a b = g := ⟨_, rfl⟩
              rw [hg] at hrk hgg
              have HRK := hid hrk
              have HRC := hid hrc
              have hgt : decide (g > 0) = false := by simp; omega
              clear hrk hrc hg
              go_wp2_with fail
              clear q0 q1 q2 q3
              refine Calls.mono (rowa_any _ c (a : Int) (b : Int) w9 (HC.out w9 hx39) HSZ.out) ?_
              rintro e w10 ⟨rr, rfl, h10, -, hro⟩
              obtain ⟨Ar, kr, rfl, hIr⟩ := hro HRC.out
              have hx10 := hx9.trans h10
              rw [HRC.out]
              simp only [Int.toNat_natCast] at hIr ⊢
              obtain ⟨row, hrow⟩ : ∃ row, rowL c.all c.ev.toNat a b = row := ⟨_, rfl⟩
              rw [hrow] at hIr ⊢
              have HRO := hid hrow
              have HIR := hid hIr
              have hrln : row.length ≤ 7 := by rw [← hrow]; exact HRK.out.len
              clear hrow hIr hro
              go_wp2_with fail
              refine (sum_any AL cL c.all Ar kr row (a : Int) (b : Int) (b : Int) g w10 (HBL.out w10 hx10) HIR.out (by omega) (by omega) HM2.out (by rw [← HRO.out]; exact HRK.out.in_) (by rw [← HRO.out]; exact HRK.out.sum)).mono ?_
              rintro e w11 ⟨rfl, h11⟩
              have hyy : ((b : Int) == (b : Int)) = true := by simp
              rw [hyy]
              go_wp2
              go_roundw
              case rel => exact ⟨b + 1, by go_num, by omega, hx10.trans h11⟩
              case measure => simp [intOf]; omega
        · have hlt2' : ¬ (b : Int) < (N : Int) := by omega
          go_wp2
          go_roundw
          case rel => exact ⟨a + 1, by go_num, by omega, hx⟩
          case measure => simp [intOf]; omega
    · have hlt1' : ¬ (a : Int) < (N : Int) := by omega
      go_wp2_with fail
      refine (awake_any wr).mono ?_
      rintro e w9 ⟨rfl, h9⟩
      go_wp2
      go_ret
      exact ⟨rfl, ((HX3.out.trans HX37.out).trans hx).trans h9⟩
end Go.Proofs.Ytgnjhaomlbkgcaa

namespace Go.Proofs.Ytgnjhaomlbkgcaa
open Go.ChangeShapes Go.WideShapes Go.ChangeAt Go.RowKit
open Go.ChangeMaps (open_string shut_string)
set_option linter.unusedVariables false
set_option linter.unusedSimpArgs false

theorem decided_walk (a0 : Option Addr) (len0 cap0 : Nat) (z0 : List Int) (w : World) (w0 : IsRow .u8 w a0 len0 cap0 z0) :
    Calls Try.prog 12 #[.slice a0 len0 cap0] w fun e w' => e = .returned (.bool true) ∧ Below w.heap.size w w' := by
  obtain ⟨l0, rfl, hA0, hl0, hlt0, hn0⟩ := w0.bytes
  exact decw_any a0 l0 cap0 w hA0 hl0 hlt0 hn0

set_option maxRecDepth 100000 in
theorem decided_lifted (os : Os) (started : os.Started) (H : Type) (enc : TypeId × Value → H) :
    ReturnsInHanded {} Try.checked os 12 .any (Rows.warnDecidedSpec.pre6 enc Try.prog Try.f12 Rows.warnDecidedRow.domain false) (Rows.warnDecidedSpec.post enc Try.prog Try.f12 false true false false) := by
  refine returnsInHanded_of_change (C := Try.checked) lOwn started (by kernel_rfl) Try.func12
    (ChangeSpec.witness6 (enc := enc) (C := Try.checked) false ⟨#[], #[.slice none 0 0], []⟩ 8 (by kernel_rfl) (by kernel_rfl) (by kernel_rfl) (by kernel_rfl)) ?_
  intro W base args ds gs before hval0 hW hcnd _
  have hval : ∀ (j : Nat) t v, Try.f12.params[j]? = some t → args[j]? = some v → Value.okWide Try.prog W .any base t v := hval0
  have hW' := hW
  obtain ⟨p, q, hA0, hV, rfl, hfz, hnd⟩ := hW
  have hA : DataW.TrodAll enc Try.prog W 0 (fun _ => true) true Try.f12.params.toList args.toList ds p := hA0
  rw [Try.params12] at hA hval
  obtain ⟨v0, vs0, d0, ds0, p0, q0, hargs, rfl, rfl, h0, r0⟩ := trodAll_cons hA
  obtain ⟨rfl, rfl, rfl⟩ := trodAll_nil r0
  obtain rfl : args = #[v0] := by cases args; simp_all
  obtain ⟨rfl, rfl⟩ := trodVars_none hV
  obtain ⟨a0, len0, cap0, rfl⟩ := okWide_slice Try.underlying22 (hval 0 22 v0 rfl rfl)
  have k0 := h0
  have lt0 : ∀ x ∈ p0, x.block < W.heap.size := by obtain ⟨m, hm⟩ := k0; exact DataW.trod_lt m _ _ _ hm
  obtain ⟨z0, w0⟩ : ∃ zs, IsRow .u8 W a0 len0 cap0 zs := by
    obtain ⟨fuel, hf⟩ := h0
    rcases open_ints Try.underlying22 Try.underlying5 (by kernel_rfl) hf with ⟨hcs, _⟩ | ⟨x, l, c, zs, hcs, _, hl, hm, hz, _, hcell, hwz⟩
    · simp [Value.cells] at hcs
      obtain ⟨rfl, rfl, rfl⟩ := hcs
      exact ⟨[], .inl ⟨rfl, rfl, rfl, rfl⟩⟩
    · simp [Value.cells] at hcs
      obtain ⟨rfl, rfl, rfl⟩ := hcs
      exact ⟨zs, .inr ⟨_, rfl, hl, hm, by simpa using hz, hcell, hwz⟩⟩
  clear hA0 hval0
  refine (decided_walk a0 len0 cap0 z0 W w0).mono fun e W' ⟨he, bel⟩ => ?_
  subst he
  exact ⟨_, rfl, _, _, _, [], _, [], hW', trodAll_mk1 (shut_bool Try.underlying4 _), (trodAll_cons_mk (Below.trod lLaid (by kernel_rfl) (of_decide_eq_true (by kernel_rfl)) k0 bel lt0) trodAll_mk0), rfl, bel.frame _, fun h => by cases h⟩

theorem decided_over : Rows.warnDecidedRow.holds Try.pinned (OpenSpec.ofChange Rows.warnDecidedSpec) :=
  OpenClaim.holds_of_wide 12 Try.f12 rfl rfl rfl rfl rfl rfl rfl ⟨rfl, rfl, rfl, rfl, rfl⟩ rfl rfl rfl rfl rfl (by kernel_rfl) Try.func12 (by kernel_rfl)
    (of_decide_eq_true (by kernel_rfl)) (by unfold Func.isWrapper; first | (rw [if_pos (by decide +kernel)]; kernel_rfl) | (rw [if_neg (by decide +kernel)]; exact ⟨rfl, rfl⟩))
    (fun os started H enc _ => decided_lifted os started H enc)

theorem decided_holds : Rows.WarnDecidedSaid := decided_over
#print axioms decided_holds
end Go.Proofs.Ytgnjhaomlbkgcaa
