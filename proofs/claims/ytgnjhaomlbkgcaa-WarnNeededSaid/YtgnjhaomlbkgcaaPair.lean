/- The walk of Order, and of slices.Contains over pairs. -/
import Derived.Test.YtgnjhaomlbkgcaaWOpen
import Derived.Test.YtgnjhaomlbkgcaaWMade
namespace Go.Proofs.Ytgnjhaomlbkgcaa
open Go Go.RowKit Go.Shelf
set_option linter.unusedVariables false
set_option linter.unusedSimpArgs false

def pcells : List (Int × Int) → List Value
  | [] => []
  | p :: l => .int .i64 p.1 :: .int .i64 p.2 :: pcells l
theorem pcells_len (l : List (Int × Int)) : (pcells l).length = l.length * 2 := by
  induction l with
  | nil => rfl
  | cons p l ih => simp [pcells, ih]; omega
theorem pcells_app (l m : List (Int × Int)) : pcells (l ++ m) = pcells l ++ pcells m := by
  induction l with
  | nil => rfl
  | cons p l ih => simp [pcells, ih]
theorem pcells_get (l : List (Int × Int)) : ∀ (k : Nat) (p : Int × Int), l[k]? = some p → (pcells l)[k * 2]? = some (.int .i64 p.1) ∧ (pcells l)[k * 2 + 1]? = some (.int .i64 p.2) := by
  induction l with
  | nil => intro k p h; simp at h
  | cons b l ih =>
    intro k p h
    cases k with
    | zero => simp at h; subst h; simp [pcells]
    | succ k =>
      have := ih k p (by simpa using h)
      have e : (k + 1) * 2 = k * 2 + 1 + 1 := by omega
      rw [e]
      simp only [pcells, List.getElem?_cons_succ]
      exact this
theorem pcells_one (l : List (Int × Int)) : ∀ u ∈ pcells l, u.oneCell' = true := by
  induction l with
  | nil => intro u h; simp [pcells] at h
  | cons p l ih =>
    intro u h
    simp only [pcells, List.mem_cons] at h
    rcases h with rfl | rfl | h
    · rfl
    · rfl
    · exact ih u h
def Pairs (w : World) (A : Option Addr) (l : List (Int × Int)) : Prop := Rd w A (pcells l)
theorem Pairs.ext {w w' : World} {A : Option Addr} {l : List (Int × Int)} (h : Pairs w A l) (hx : Ext w w') : Pairs w' A l := Rd.ext h hx
theorem Pairs.at_ {w : World} {A : Option Addr} {l : List (Int × Int)} {k : Nat} {p : Int × Int} (h : Pairs w A l) (hk : l[k]? = some p) :
    ∃ b off, A = some ⟨b, off, none⟩ ∧ w.cell? ⟨b, off + k * 2, none⟩ = some (.int .i64 p.1) ∧ w.cell? ⟨b, off + k * 2 + 1, none⟩ = some (.int .i64 p.2) := by
  obtain ⟨h0, h1⟩ := pcells_get l k p hk
  obtain ⟨b, off, hA, hc⟩ := Rd.at_ h (by intro e; rw [e] at h0; simp at h0)
  exact ⟨b, off, hA, hc _ _ h0, hc _ _ h1⟩
theorem elem_pair : ElemOK Try.prog 89 92 2 16 := by
  refine ⟨Try.underlying89, ?_, by decide, by decide⟩
  have h : ((Try.prog.info? 92).bind fun i => i.zero.map fun z => (i.size, i.bytes, z.cells.size)) = some (2, 16, 2) := by kernel_rfl
  cases hi : Try.prog.info? 92 with
  | none => rw [hi] at h; cases h
  | some i =>
    rw [hi] at h
    cases hz : i.zero with
    | none => simp [hz] at h
    | some z => simp [hz] at h; exact ⟨i, z, rfl, hz, h.1, h.2.1, h.2.2⟩

def rowO (g : Mat) (x k : Nat) : List (Int × Int) :=
  (((List.range k).filter fun (y : Nat) => verdictM g x y == 1).map fun (y : Nat) => ((x : Int), (y : Int)))
def orderTo (g : Mat) (n a b : Nat) : List (Int × Int) := (List.range a).flatMap (fun x => rowO g x n) ++ rowO g a b
def orderL (c : Cs) : List (Int × Int) := orderTo (gapsM allT c) c.ev.toNat c.ev.toNat 0
theorem orderTo_step (g : Mat) (n a b : Nat) : orderTo g n a (b + 1) = orderTo g n a b ++ if verdictM g a b = 1 then [((a : Int), (b : Int))] else [] := by
  unfold orderTo rowO
  rw [List.range_succ, List.filter_append, List.map_append, List.append_assoc]
  congr 2
  by_cases h : verdictM g a b = 1 <;> simp [h]
theorem orderTo_next (g : Mat) (n a : Nat) : orderTo g n a n = orderTo g n (a + 1) 0 := by
  unfold orderTo
  rw [List.range_succ, List.flatMap_append]
  simp [rowO]
def OrderPost (w : World) (c : Cs) (e : Ending) (w' : World) : Prop :=
  ∃ r, e = .returned (.tuple #[r, .int .i64 (toldC c)]) ∧ Ext w w' ∧ (toldC c ≠ 0 → r = .slice none 0 0) ∧ (toldC c = 0 → ∃ A k, r = .slice A (orderL c).length k ∧ w'.ownsRow w.heap.size 92 2 (.slice A (orderL c).length k) (orderL c).length (pcells (orderL c)))

set_option maxRecDepth 100000 in
set_option maxHeartbeats 4000000 in
theorem order_any (v : Value) (c : Cs) (w : World) (hc : CsR w v c) (hs : c.sized) : Calls Try.prog 51 #[v] w (OrderPost w c) := by
  have hc' := hc
  obtain ⟨A1, c1, A2, c2, rfl, hB, hC⟩ := hc
  obtain ⟨T, hT⟩ : ∃ T, toldC c = T := ⟨_, rfl⟩
  have HT := hid hT
  go_enter Try.func51, Try.ntmps51
  go_wp2_with fail
  have hx0 : Ext w (w.alloc (.cells #[.int .i64 c.ev, .slice A1 c.bs.length c1, .int .i64 c.wi, .slice A2 c.cl.length c2] 26)) := Ext.alloc (Ext.refl w) _
  refine (told_any _ c _ (hc'.ext hx0) hs).mono ?_
  rw [hT]
  clear hT
  rintro e w1 ⟨r, rfl, hb1, hr1, hr2⟩
  have hx1 := hx0.trans hb1
  have kc0 := hb1.cell (p := ⟨w.heap.size, 0, none⟩) (u := .int .i64 c.ev) (by simp [go_sem])
  by_cases h0 : T = 0
  · have hr := hr1 h0
    have HC0 := toldC_check (HT.out.trans h0)
    obtain ⟨ev1, ev8⟩ := checkC_ev HC0
    subst h0
    obtain ⟨n, hn⟩ : ∃ n : Nat, c.ev = n := ⟨c.ev.toNat, by omega⟩
    have HN := hid hn
    obtain ⟨g, hg⟩ : ∃ g, gapsM allT c = g := ⟨_, rfl⟩
    have HG := hid hg
    rw [hg] at hr
    rw [hn] at kc0
    have hn8 : n ≤ 8 := by omega
    have HDK := hid hr
    clear hr1 hr2 hn hg ev1 ev8 hr HC0
    go_wp2
    go_loopw [6, 19] (fun o i wr => ∃ (a : Nat) (A : Option Addr) (k : Nat) (L : List (Int × Int)), o = .slice A L.length k ∧ i = .int .i64 (a : Int) ∧ a ≤ n ∧ L.length ≤ 8 * a ∧ Hid (L = orderTo g n a 0) ∧ Hid (wr.ownsRow w1.heap.size 92 2 (.slice A L.length k) L.length (pcells L)) ∧ Ext w1 wr) (fun _ i _ => n - (intOf i).toNat)
    case atStart => exact ⟨0, none, 0, [], rfl, rfl, Nat.zero_le _, by simp, by unfold Hid; simp [orderTo, rowO], own_nil _ _ _ _, Ext.refl _⟩
    case round =>
      obtain ⟨a, A, k, L, rfl, rfl, ha, hL, HL, O, hx⟩ := hrel
      by_cases hlt : a < n
      · have hlt' : (a : Int) < (n : Int) := by omega
        have kc1 := hx.cell kc0
        obtain ⟨wo, rfl⟩ : ∃ wo : World, wo = wr := ⟨_, rfl⟩
        go_wp2
        clear kc1
        go_loopw [6, 24] (fun o i wr => ∃ (b : Nat) (A : Option Addr) (k : Nat) (L : List (Int × Int)), o = .slice A L.length k ∧ i = .int .i64 (b : Int) ∧ b ≤ n ∧ L.length ≤ 8 * a + b ∧ Hid (L = orderTo g n a b) ∧ Hid (wr.ownsRow w1.heap.size 92 2 (.slice A L.length k) L.length (pcells L)) ∧ Ext w1 wr) (fun _ i _ => n - (intOf i).toNat)
        case atStart => exact ⟨0, A, k, L, rfl, rfl, Nat.zero_le _, by omega, HL, O, hx⟩
        case round =>
          obtain ⟨b, A, k, L, rfl, rfl, hb, hL, HL, O, hx⟩ := hrel
          by_cases hltb : b < n
          · have hltb' : (b : Int) < (n : Int) := by omega
            have HST := hid (orderTo_step g n a b)
            go_wp2_with fail
            have K := verdict_any r c g wr (HDK.out.ext hx) a b (by omega) (by omega)
            by_cases hv : verdictM g a b = 1
            · have HS2 : Hid (orderTo g n a (b + 1) = L ++ [((a : Int), (b : Int))]) := by unfold Hid; rw [HST.out, if_pos hv, HL.out]
              rw [hv] at K
              refine K.mono ?_
              rintro e w2 ⟨rfl, rfl⟩
              obtain ⟨wr, rfl⟩ : ∃ wr : World, wr = w2 := ⟨_, rfl⟩
              have hsz := hx.size
              have hx1s := hx1.size
              have hxo := Ext.alloc (Ext.refl wr) (.cells #[.int .i64 (a : Int), .int .i64 (b : Int)] 92)
              have hbase : w1.heap.size ≤ (wr.alloc (.cells #[.int .i64 (a : Int), .int .i64 (b : Int)] 92)).heap.size := by have := hxo.size; omega
              have O2 := hid (own_below O.out hxo)
              have hLb : (L.length + 1) * 16 ≤ 140737488355328 := by omega
              clear HST hv K HL O
              go_wp2_with (at_builtin; refine wpList_append_rd _ rfl _ _ 89 rfl elem_pair w1.heap.size _ L.length (pcells L) rfl O2.out _ 1 1 (pcells [((a : Int), (b : Int))]) rfl rfl (rd_block (heap_alloc_new wr _)) (pcells_one _) hLb hbase ?_)
              intro A5 c5 w5 hown5 hbel5 hgr5 _
              have hx5 : Ext w1 w5 := Below.trans (hx.trans hxo) hbel5
              have HL5 : Hid ((L ++ [((a : Int), (b : Int))]).length = L.length + 1) := by unfold Hid; simp
              have O5 : Hid (w5.ownsRow w1.heap.size 92 2 (.slice A5 (L ++ [((a : Int), (b : Int))]).length c5) (L ++ [((a : Int), (b : Int))]).length (pcells (L ++ [((a : Int), (b : Int))]))) := by
                unfold Hid; rw [HL5.out, pcells_app]; exact hown5
              have hl9 : (L ++ [((a : Int), (b : Int))]).length ≤ 8 * a + (b + 1) := by have := HL5.out; omega
              have hsl : Value.slice A5 (L.length + 1) c5 = .slice A5 (L ++ [((a : Int), (b : Int))]).length c5 := by simp
              have HSL := hid hsl
              clear hown5 hbel5 hgr5 O2 hxo hsl
              go_wp2
              go_roundw
              case rel => exact ⟨b + 1, A5, c5, L ++ [((a : Int), (b : Int))], HSL.out, by go_num, by omega, hl9, HS2.out.symm, O5, hx5⟩
              case measure => simp [intOf]; omega
            · have HS2 : Hid (orderTo g n a (b + 1) = L) := by unfold Hid; rw [HST.out, if_neg hv, HL.out, List.append_nil]
              obtain ⟨V, hV⟩ : ∃ V, verdictM g a b = V := ⟨_, rfl⟩
              rw [hV] at K hv
              have hvb : (V == 1) = false := by simpa using hv
              clear hV HST HL hv
              refine K.mono ?_
              rintro e w2 ⟨rfl, rfl⟩
              clear K
              go_wp2
              go_roundw
              case rel => exact ⟨b + 1, A, k, L, rfl, by go_num, by omega, by omega, HS2.out.symm, O, hx⟩
              case measure => simp [intOf]; omega
          · have hltb' : ¬ (b : Int) < (n : Int) := by omega
            have HL2 : Hid (L = orderTo g n (a + 1) 0) := by
              unfold Hid
              rw [HL.out, show b = n by omega, orderTo_next]
            go_wp2
            go_roundw
            case rel => exact ⟨a + 1, A, k, L, rfl, by go_num, by omega, by omega, HL2, O, hx⟩
            case measure => simp [intOf]; omega
      · have hlt' : ¬ (a : Int) < (n : Int) := by omega
        have HL2 : Hid (L = orderL c) := by
          unfold Hid orderL
          rw [HL.out, HG.out, HN.out, show a = n by omega]; rfl
        go_wp2
        go_ret2
        exact ⟨.slice A L.length k, by rw [HT.out]; rfl, hx1.trans hx, fun h => absurd HT.out h, fun _ => ⟨A, k, by rw [← HL2.out], by rw [← HL2.out]; exact own_base O.out hx1.size⟩⟩
  · have H0 := hid h0
    have hr := hr2 h0
    subst hr
    clear hr1 hr2
    go_wp2
    go_ret2
    exact ⟨.slice none 0 0, by rw [HT.out]; rfl, hx1, fun _ => rfl, fun h => absurd (HT.out.symm.trans h) H0.out⟩

/-! slices.Contains over pairs -/
def memP (p : Int × Int) (l : List (Int × Int)) : Bool := l.any fun q => p == q
theorem memP_iff {p : Int × Int} {l : List (Int × Int)} : memP p l = true ↔ p ∈ l := by
  unfold memP
  rw [List.any_eq_true]
  exact ⟨fun ⟨q, h, e⟩ => by rw [beq_iff_eq.1 e]; exact h, fun h => ⟨p, h, by simp⟩⟩
theorem pair_beq (p q : Int × Int) : ([p.1, p.2] == [q.1, q.2]) = (p == q) := by
  obtain ⟨a, b⟩ := p
  obtain ⟨c, d⟩ := q
  show ((a == c) && ((b == d) && true)) = ((a == c) && (b == d))
  rw [Bool.and_true]
set_option maxRecDepth 100000 in
set_option maxHeartbeats 2000000 in
theorem indexP_any (A : Option Addr) (k0 : Nat) (l : List (Int × Int)) (p : Int × Int) (w : World) (hA : Pairs w A l) (hl : l.length ≤ 1000000) :
    Calls Try.prog 105 #[.slice A l.length k0, .agg #[.int .i64 p.1, .int .i64 p.2]] w fun e w' => e = .returned (.int .i64 (idxF (fun q => p == q) l 0)) ∧ Ext w w' := by
  have HF : Hid (idxF (fun q => p == q) l 0 = idxF (fun q => p == q) (l.drop 0) 0) := rfl
  generalize hF : idxF (fun q => p == q) l 0 = F at HF ⊢
  clear hF
  go_enter Try.func105, Try.ntmps105
  go_wp2
  have x0 := Ext.alloc (Ext.refl w) (.cells #[.int .i64 p.1, .int .i64 p.2] 92)
  have k0' : (w.alloc (.cells #[.int .i64 p.1, .int .i64 p.2] 92)).cell? ⟨w.heap.size, 0, none⟩ = some (.int .i64 p.1) := by simp [go_sem]
  have k1' : (w.alloc (.cells #[.int .i64 p.1, .int .i64 p.2] 92)).cell? ⟨w.heap.size, 1, none⟩ = some (.int .i64 p.2) := by simp [go_sem]
  generalize hWo : w.alloc (.cells #[.int .i64 p.1, .int .i64 p.2] 92) = Wo at x0 k0' k1' ⊢
  clear hWo
  go_loopw [5, 8] (fun _ i wr => ∃ kk : Nat, kk ≤ l.length ∧ i = .int .i64 (kk : Int) ∧ Ext Wo wr ∧ Hid (F = idxF (fun q => p == q) (l.drop kk) kk)) (fun _ i _ => l.length - (intOf i).toNat)
  case atStart => exact ⟨0, Nat.zero_le _, rfl, Ext.refl _, HF⟩
  case round =>
    obtain ⟨kk, hk, rfl, hx, HF⟩ := hrel
    by_cases hlt : kk < l.length
    · have hlt' : (kk : Int) < (l.length : Int) := by omega
      obtain ⟨q, hq⟩ := get_of_lt l kk hlt
      obtain ⟨b, off, rfl, c0, c1⟩ := (hA.ext (x0.trans hx)).at_ hq
      have HD := hid (idxF_drop (fun q => p == q) l kk q hq)
      have r0 := hx.cell k0'
      have r1 := hx.cell k1'
      clear hq
      go_wp2
      have FX0 : ∀ w', Ext wr w' → w'.cell? ⟨w.heap.size, 0, none⟩ = some (.int .i64 p.1) ∧ w'.cell? ⟨w.heap.size, 1, none⟩ = some (.int .i64 p.2) ∧ w'.cell? ⟨b, off + kk * 2, none⟩ = some (.int .i64 q.1) ∧ w'.cell? ⟨b, off + kk * 2 + 1, none⟩ = some (.int .i64 q.2) :=
        fun w' h => ⟨h.cell r0, h.cell r1, h.cell c0, h.cell c1⟩
      have FX := hid FX0
      clear FX0 r0 r1 c0 c1
      refine wp_region_opens Ext (fun w' => Ext wr w') (fun _ => none) (by kernel_rfl) (by kernel_rfl) (fun _ _ h k => h.trans k) (fun i R hR => by cases hR) (Ext.drew (Ext.refl wr)) ?_
      refine wpM_val ?u0 rfl rfl Ext.refl (fun w' hD => ?h0) ?n0
      case h0 =>
        obtain ⟨d0, d1, d2, d3⟩ := FX.out w' hD.1
        go_simp; rfl
      simp only [Act.put, List.setIfInBounds_toArray, List.set_cons_succ, List.set_cons_zero, Nat.reduceAdd]
      refine wpM_val ?u1 rfl rfl Ext.refl (fun w' hD => ?h1) ?n1
      case h1 =>
        obtain ⟨d0, d1, d2, d3⟩ := FX.out w' hD.1
        go_simp; rfl
      simp only [Act.put, List.setIfInBounds_toArray, List.set_cons_succ, List.set_cons_zero, Nat.reduceAdd]
      refine wpM_val ?u2 rfl rfl Ext.refl (fun w' hD => ?h2) ?n2
      case h2 =>
        obtain ⟨d0, d1, d2, d3⟩ := FX.out w' hD.1
        go_simp; rfl
      simp only [Act.put, List.setIfInBounds_toArray, List.set_cons_succ, List.set_cons_zero, Nat.reduceAdd]
      refine wpM_val ?u3 rfl rfl Ext.refl (fun w' hD => ?h3) ?n3
      case h3 =>
        obtain ⟨d0, d1, d2, d3⟩ := FX.out w' hD.1
        go_simp; rfl
      simp only [Act.put, List.setIfInBounds_toArray, List.set_cons_succ, List.set_cons_zero, Nat.reduceAdd]
      refine wpM_val ?u4 rfl rfl Ext.refl (fun w' hD => ?h4) ?n4
      case h4 =>
        obtain ⟨d0, d1, d2, d3⟩ := FX.out w' hD.1
        go_simp; rfl
      simp only [Act.put, List.setIfInBounds_toArray, List.set_cons_succ, List.set_cons_zero, Nat.reduceAdd]
      refine wpM_val (.bool ([p.1, p.2] == [q.1, q.2])) rfl rfl Ext.refl (fun w' hD => ?hc5) ?nc5
      case hc5 =>
        refine run_eql_op w' _ 92 92 (.tmp 11) (.tmp 15) ?_ #[.int .i64 p.1, .int .i64 p.2] #[.int .i64 q.1, .int .i64 q.2] ?_ ?_ _ Try.eqGuardType92 (run_equalIn_arr1 w' 9998 92 3 .i64 2 Try.underlying92 Try.underlying3 (by kernel_rfl) (by kernel_rfl) [p.1, p.2] [q.1, q.2] rfl rfl)
        · rfl
        · rfl
        · rfl
      simp only [Act.put, List.setIfInBounds_toArray, List.set_cons_succ, List.set_cons_zero, Nat.reduceAdd]
      refine wpM_nil ?_
      intro w9 hw9 hF9
      rw [pair_beq]
      have hx9 := hx.trans hw9
      clear hF9 FX
      by_cases hpq : p = q
      · have hb : (p == q) = true := by simpa using hpq
        have HE : Hid (F = (kk : Int)) := by unfold Hid; rw [HF.out, HD.out, if_pos hb]
        rw [hb]
        clear hb hpq
        go_wp2
        go_ret
        exact ⟨ret_of (int_of HE.out.symm), x0.trans hx9⟩
      · have hb : (p == q) = false := by simpa using hpq
        have HE : Hid (F = idxF (fun q => p == q) (l.drop (kk + 1)) (kk + 1)) := by unfold Hid; rw [HF.out, HD.out, if_neg (by rw [hb]; simp)]
        rw [hb]
        clear hb hpq
        go_wp2
        go_roundw
        case rel => exact ⟨kk + 1, by omega, by go_num, hx9, HE⟩
        case measure => simp [intOf]; omega
    · have hlt' : ¬ (kk : Int) < (l.length : Int) := by omega
      have HE : Hid (F = -1) := by unfold Hid; rw [HF.out, idxF_end _ _ _ (by omega)]
      go_wp2
      go_ret
      exact ⟨ret_of (int_of HE.out.symm), x0.trans hx⟩
theorem containsP_any (A : Option Addr) (k0 : Nat) (l : List (Int × Int)) (p : Int × Int) (w : World) (hA : Pairs w A l) (hl : l.length ≤ 1000000) :
    Calls Try.prog 52 #[.slice A l.length k0, .agg #[.int .i64 p.1, .int .i64 p.2]] w fun e w' => e = .returned (.bool (memP p l)) ∧ Ext w w' := by
  have HM := hid (idxF_nonneg (fun q => p == q) l 0)
  go_enter Try.func52, Try.ntmps52
  go_wp2_with fail
  have x0 := Ext.alloc (Ext.refl w) (.cells #[.int .i64 p.1, .int .i64 p.2] 92)
  refine (indexP_any A k0 l p _ (hA.ext x0) hl).mono ?_
  rintro e w1 ⟨rfl, hb⟩
  go_wp2
  go_ret
  exact ⟨ret_of (bool_of HM.out), x0.trans hb⟩
end Go.Proofs.Ytgnjhaomlbkgcaa
