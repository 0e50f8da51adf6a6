/- The iterator over the bounds that are believed: its contract, for every loop body that keeps all cells but those of one block. -/
import Derived.Test.YtgnjhaomlbkgcaaWSlices
import Derived.Test.YtgnjhaomlbkgcaaWSpec
import Derived.Test.YtgnjhaomlbkgcaaRegionIn
namespace Go.Proofs.Ytgnjhaomlbkgcaa
open Go Go.RowKit Go.Shelf
set_option linter.unusedVariables false
set_option linter.unusedSimpArgs false
attribute [local go_sem] Oper.semAt_some

def numFrom : Nat → List Bd → List (Nat × Bd)
  | _, [] => []
  | n, b :: l => (n, b) :: numFrom (n + 1) l
def clNum (tf : Int → Bool) : Nat → List Cl → List (Nat × Bd)
  | _, [] => []
  | n, x :: l => (if tf x.w then numFrom n x.bs else []) ++ clNum tf (n + x.bs.length) l
/-- The bounds that are believed, with their numbers. -/
def belNum (tf : Int → Bool) (c : Cs) : List (Nat × Bd) := numFrom 0 c.bs ++ clNum tf c.bs.length c.cl

theorem numFrom_drop (n : Nat) (l : List Bd) (k : Nat) (x : Bd) (h : l[k]? = some x) : numFrom (n + k) (l.drop k) = (n + k, x) :: numFrom (n + (k + 1)) (l.drop (k + 1)) := by
  have hk : k < l.length := (List.getElem?_eq_some_iff.1 h).1
  rw [List.drop_eq_getElem_cons hk, (List.getElem?_eq_some_iff.1 h).2]
  rfl
theorem numFrom_end (n : Nat) (l : List Bd) (k : Nat) (h : l.length ≤ k) (m : Nat) : numFrom m (l.drop k) = [] := by
  rw [List.drop_eq_nil_of_le h]; rfl

/-- A yield's arguments. -/
abbrev NB (L : List (Nat × Bd)) := { x : Nat × Bd // x ∈ L }
def encNB {L : List (Nat × Bd)} (x : NB L) : Array Value := #[.int .i64 (x.1.1 : Int), x.1.2.val]

theorem abides_ext {β : Type} {B : Nat} {J : β → World → Prop} (h : AbidesFrom B J) {s : β} {W W' : World} (hs : J s W) (he : Ext W W') : J s W' :=
  h s W W' none hs (by obtain ⟨h1, h2, h3, h4, h5⟩ := he; exact ⟨h1, h2, h3, h4, fun i hi _ => h5 i hi⟩) (fun _ e => by cases e)

theorem mem_of_eq {α : Type} {a : α} {l m : List α} (h : l = m) (ha : a ∈ l) : a ∈ m := h ▸ ha
theorem len_of_eq {α : Type} {l m : List α} (h : l = m) {k : Nat} (ha : k < l.length) : k < m.length := h ▸ ha

set_option maxRecDepth 100000 in
set_option maxHeartbeats 4000000 in
theorem believed1_in (n l Bc Bt D : Nat) (c : Cs) (tf : Int → Bool) (fv : Value) (w0 : World) (A1 A2 : Option Addr) (c1 c2 : Nat) (L : List (Nat × Bd)) (hL : belNum tf c = L) (J Jx : List (NB L) → World → Prop)
    (hB : Bounds w0 A1 c.bs) (hC : Claims w0 A2 c.cl) (hfv : FnP Try.prog fv w0 IntR anyx tf) (hD0 : w0.heap.size ≤ D) (hBc : Bc ≠ D) (hBt : Bt ≠ D)
    (hs1 : c.all.length ≤ 9223372036854775807) (hs2 : c.cl.length ≤ 9223372036854775807)
    (hY : ∀ pre x W, J pre W → pre.length < L.length → YieldAt Fence.wide (n - 1) Try.prog l (encNB x) W fun e W' =>
      (e = .returned (.bool true) ∧ J (pre ++ [x]) W' ∧ Cel D W W') ∨ (e = .returned (.bool false) ∧ Jx (pre ++ [x]) W'))
    (W : World) (hJ : AbidesFrom W.heap.size J) (hk0 : Kc w0 W) (hDW : D < W.heap.size)
    (k1 : W.cell? ⟨Bc, 1, none⟩ = some (.slice A1 c.bs.length c1)) (k3 : W.cell? ⟨Bc, 3, none⟩ = some (.slice A2 c.cl.length c2)) (kt : W.cell? ⟨Bt, 0, none⟩ = some fv) (h0 : J [] W) :
    CallsIn Fence.wide n Try.prog 149 #[.func (.yield l) #[] #[], .pointer (some ⟨Bc, 0, none⟩), .pointer (some ⟨Bt, 0, none⟩)] W fun e W' => (∃ v, e = .returned v) ∧
      ((∃ xs, xs.map (·.1) = L ∧ J xs W') ∨ (∃ pre, True ∧ Jx pre W')) := by
  have hall : c.bs.length ≤ c.all.length := by simp [Cs.all]
  have HL : Hid (numFrom (0 + 0) (c.bs.drop 0) ++ clNum tf c.bs.length c.cl = L) := by rw [← hL]; rfl
  have HY := hid hY
  have HJ := hid hJ
  obtain ⟨g, fst, lb, rfl, eg, hcall⟩ := hfv
  have HC := hid hcall
  clear hY hJ hcall
  refine callsIn_of_wp Try.func149 rfl trivial ?_ rfl
  simp only [Try.ntmps149, List.size_toArray, List.length_cons, List.length_nil, Nat.reduceAdd, Nat.reduceSub, Array.replicate_succ, Array.replicate_zero, List.push_toArray, List.append_toArray, List.nil_append, List.cons_append]
  gi_wp2
  gi_loopw [14] (fun i wr => ∃ (kk : Nat) (pre : List (NB L)), kk ≤ c.bs.length ∧ i = .int .i64 kk ∧ J pre wr ∧ Hid (pre.map (·.1) ++ (numFrom (0 + kk) (c.bs.drop kk) ++ clNum tf c.bs.length c.cl) = L) ∧ Kc w0 wr ∧ D < wr.heap.size ∧
      wr.cell? ⟨Bc, 1, none⟩ = some (.slice A1 c.bs.length c1) ∧ wr.cell? ⟨Bc, 3, none⟩ = some (.slice A2 c.cl.length c2) ∧ wr.cell? ⟨Bt, 0, none⟩ = some (.func (.func g) fst lb))
    (fun i _ => c.bs.length - (intOf i).toNat)
  case atStart => exact ⟨0, [], Nat.zero_le _, rfl, h0, by simpa using HL, hk0, hDW, k1, k3, kt⟩
  case round =>
    obtain ⟨kk, pre, h1, rfl, hJ1, HP, hkr, hDr, q1, q3, qt⟩ := hrel
    by_cases hlt : kk < c.bs.length
    · have hlt' : (kk : Int) < (c.bs.length : Int) := by omega
      obtain ⟨x, hx⟩ := get_of_lt c.bs kk hlt
      have HX := hid hx
      clear hx
      obtain ⟨b, off, rfl, e0, e1, e2⟩ := (hB.kc hkr).at_ HX.out
      have HN := hid (numFrom_drop 0 c.bs kk x HX.out)
      have hmem : (kk, x) ∈ L := mem_of_eq HP.out (by rw [HN.out]; simp)
      have hlen : pre.length < L.length := len_of_eq HP.out (by rw [HN.out]; simp)
      obtain ⟨fn, tmps, assign, body, hy, hR⟩ := HY.out pre ⟨(kk, x), hmem⟩ (wr.alloc (.cells #[.int .i64 x.f, .int .i64 x.t, .int .i64 x.m] 35)) (abides_ext HJ.out hJ1 (Ext.alloc (Ext.refl wr) _)) hlen
      simp only [encNB, Bd.val] at hy
      gi_wp2
      refine ⟨fun h => (by cases h), hR.mono ?_⟩
      rintro e W3 (⟨rfl, hJ3, hk3⟩ | ⟨rfl, hJx3⟩)
      · have hkc : Cel D wr W3 := (Ext.cel (Ext.alloc (Ext.refl wr) _)).trans hk3
        gi_wp2
        go_roundw
        case rel =>
          exact ⟨kk + 1, _, by omega, by go_num, hJ3, Eq.trans (by rw [HN.out]; simp) HP.out, hkr.cel hD0 hkc, by have := hkc.1; omega, hkc.cell q1 hBc, hkc.cell q3 hBc, hkc.cell qt hBt⟩
        case measure => simp [intOf]; omega
      · gi_wp2
        refine bodyPost_ret (results_none rfl _ _ _) rfl ?_
        exact ⟨⟨_, rfl⟩, .inr ⟨_, trivial, hJx3⟩⟩
    · have hlt' : ¬ (kk : Int) < (c.bs.length : Int) := by omega
      have HP2 : Hid (pre.map (·.1) ++ (clNum tf c.bs.length (c.cl.drop 0)) = L) := Eq.trans (by rw [numFrom_end 0 c.bs kk (by omega)]; simp) HP.out
      clear HP
      gi_wp2
      gi_loopw [6, 31] (fun s6 s31 w2 => ∃ (k2 nn : Nat) (pre : List (NB L)), k2 ≤ c.cl.length ∧ s31 = .int .i64 k2 ∧ s6 = .int .i64 nn ∧ nn + ((c.cl.drop k2).flatMap (·.bs)).length ≤ 9223372036854775807 ∧ J pre w2 ∧ Hid (pre.map (·.1) ++ clNum tf nn (c.cl.drop k2) = L) ∧ Kc w0 w2 ∧ D < w2.heap.size ∧
          w2.cell? ⟨Bt, 0, none⟩ = some (.func (.func g) fst lb))
        (fun _ i _ => c.cl.length - (intOf i).toNat)
      case atStart => exact ⟨0, c.bs.length, pre, Nat.zero_le _, rfl, rfl, by simpa [Cs.all] using hs1, hJ1, HP2, hkr, hDr, qt⟩
      case round =>
        obtain ⟨k2, nn, pre, h2, rfl, rfl, hnn, hJ2, HP3, hk2, hD2, qt2⟩ := hrel
        by_cases hlt2 : k2 < c.cl.length
        · have hlt2' : (k2 : Int) < (c.cl.length : Int) := by omega
          obtain ⟨x, hx⟩ := get_of_lt c.cl k2 hlt2
          have HX := hid hx
          obtain ⟨b, off, A3, c3, rfl, e00, e10, hB3⟩ := hC.at_ hx
          have e0 := hk2.cell e00
          have e1 := hk2.cell e10
          have hdr : c.cl.drop k2 = x :: c.cl.drop (k2 + 1) := by
            rw [List.drop_eq_getElem_cons hlt2, (List.getElem?_eq_some_iff.1 hx).2]
          have HDR := hid hdr
          rw [hdr] at hnn
          simp only [List.flatMap_cons, List.length_append] at hnn
          clear hdr hx
          have hx8 : Ext wr (wr.alloc (.cells #[.int .i64 x.w, .slice A3 x.bs.length c3] 37)) := Ext.alloc (Ext.refl wr) _
          have hJ8 := abides_ext HJ.out hJ2 hx8
          have HP8 : Hid (pre.map (·.1) ++ ((if tf x.w then numFrom (nn + 0) (x.bs.drop 0) else []) ++ clNum tf (nn + x.bs.length) (c.cl.drop (k2 + 1))) = L) := Eq.trans (by rw [HDR.out]; rfl) HP3.out
          have hDx : wr.heap.size ≠ D := by omega
          have k80 : (wr.alloc (.cells #[.int .i64 x.w, .slice A3 x.bs.length c3] 37)).cell? ⟨wr.heap.size, 0, none⟩ = some (.int .i64 x.w) := by simp [go_sem]
          have k81 : (wr.alloc (.cells #[.int .i64 x.w, .slice A3 x.bs.length c3] 37)).cell? ⟨wr.heap.size, 1, none⟩ = some (.slice A3 x.bs.length c3) := by simp [go_sem]
          have hk8 := hk2.trans hx8.kc
          have hD8 : D < (wr.alloc (.cells #[.int .i64 x.w, .slice A3 x.bs.length c3] 37)).heap.size := by simp; omega
          have qt8 := hx8.cell qt2
          gi_wp2
          obtain ⟨wo, hwo⟩ : ∃ wo : World, wo = wr := ⟨_, rfl⟩
          subst hwo
          gi_loopw [38] (fun s38 w3 => ∃ (k3 : Nat) (pre : List (NB L)), k3 ≤ x.bs.length ∧ s38 = .int .i64 k3 ∧ J pre w3 ∧ Hid (pre.map (·.1) ++ ((if tf x.w then numFrom (nn + k3) (x.bs.drop k3) else []) ++ clNum tf (nn + x.bs.length) (c.cl.drop (k2 + 1))) = L) ∧ Kc w0 w3 ∧ D < w3.heap.size ∧
              w3.cell? ⟨Bt, 0, none⟩ = some (.func (.func g) fst lb) ∧ w3.cell? ⟨wo.heap.size, 0, none⟩ = some (.int .i64 x.w) ∧ w3.cell? ⟨wo.heap.size, 1, none⟩ = some (.slice A3 x.bs.length c3))
            (fun i _ => x.bs.length - (intOf i).toNat)
          case atStart => exact ⟨0, pre, Nat.zero_le _, rfl, hJ8, HP8, hk8, hD8, qt8, k80, k81⟩
          case round =>
            obtain ⟨k3, pre, h3, rfl, hJ3, HP4, hk3, hD3, qt3, j80, j81⟩ := hrel
            by_cases hlt3 : k3 < x.bs.length
            · have hlt3' : (k3 : Int) < (x.bs.length : Int) := by omega
              obtain ⟨y, hy0⟩ := get_of_lt x.bs k3 hlt3
              have HY0 := hid hy0
              clear hy0
              obtain ⟨b, off, rfl, e0, e1, e2⟩ := (hB3.kc hk3).at_ HY0.out
              have hx9 : Ext wr (wr.alloc (.cells #[.int .i64 y.f, .int .i64 y.t, .int .i64 y.m] 35)) := Ext.alloc (Ext.refl wr) _
              have f9 : ∀ o, (wr.alloc o).cell? ⟨Bt, 0, none⟩ = some (.func (.func g) fst lb) := fun o => (Ext.alloc (Ext.refl wr) o).cell qt3
              have f90 : ∀ o, (wr.alloc o).cell? ⟨wo.heap.size, 0, none⟩ = some (.int .i64 x.w) := fun o => (Ext.alloc (Ext.refl wr) o).cell j80
              have hk9 := hk3.trans hx9.kc
              have HN := hid (numFrom_drop nn x.bs k3 y HY0.out)
              gi_wp2_with fail
              refine ⟨trivial, fun h => (by cases h), (callsIn_wide.2 (HC.out x.w _ _ trivial hk9 rfl)).mono ?_⟩
              rintro e w5 ⟨rfl, hb5⟩
              have hx5 := hx9.trans hb5
              have m0 := hb5.cell (p := ⟨wr.heap.size, 0, none⟩) (u := .int .i64 y.f) (by simp [go_sem])
              have m1 := hb5.cell (p := ⟨wr.heap.size, 1, none⟩) (u := .int .i64 y.t) (by simp [go_sem])
              have m2 := hb5.cell (p := ⟨wr.heap.size, 2, none⟩) (u := .int .i64 y.m) (by simp [go_sem])
              have hJ5 := abides_ext HJ.out hJ3 hx5
              have hs5 := hx5.size
              cases hq : tf x.w
              · have HQ := hid hq
                clear hq
                gi_wp2
                refine ⟨fun _ h => (by cases h), ?_⟩
                gi_wp2
                go_roundw
                case rel => exact ⟨k3 + 1, pre, by omega, by go_num, hJ5, Eq.trans (by rw [HQ.out]; rfl) HP4.out, hk3.trans hx5.kc, by omega, hx5.cell qt3, hx5.cell j80, hx5.cell j81⟩
                case measure => simp [intOf]; omega
              · have HQ := hid hq
                clear hq
                have hmem : (nn + k3, y) ∈ L := mem_of_eq HP4.out (by rw [HQ.out, HN.out]; simp)
                have hlen : pre.length < L.length := len_of_eq HP4.out (by rw [HQ.out, HN.out]; simp)
                obtain ⟨fn, tmps, assign, body, hy, hR⟩ := HY.out pre ⟨(nn + k3, y), hmem⟩ w5 hJ5 hlen
                simp only [encNB, Bd.val, Int.natCast_add] at hy
                gi_wp2
                refine ⟨fun h => (by cases h), hR.mono ?_⟩
                rintro e W3 (⟨rfl, hJ3, hk3'⟩ | ⟨rfl, hJx3⟩)
                · have hkc : Cel D wr W3 := (Ext.cel hx5).trans hk3'
                  gi_wp2
                  go_roundw
                  case rel =>
                    exact ⟨k3 + 1, _, by omega, by go_num, hJ3, Eq.trans (by rw [HQ.out, HN.out]; simp) HP4.out, hk3.cel hD0 hkc, by have := hkc.1; omega, hkc.cell qt3 hBt, hkc.cell j80 hDx, hkc.cell j81 hDx⟩
                  case measure => simp [intOf]; omega
                · gi_wp2
                  refine bodyPost_ret (results_none rfl _ _ _) rfl ?_
                  exact ⟨⟨_, rfl⟩, .inr ⟨_, trivial, hJx3⟩⟩
            · have hlt3' : ¬ (k3 : Int) < (x.bs.length : Int) := by omega
              have HE : Hid (pre.map (·.1) ++ clNum tf (nn + x.bs.length) (c.cl.drop (k2 + 1)) = L) := Eq.trans (by rw [numFrom_end nn x.bs k3 (by omega)]; simp) HP4.out
              gi_wp2
              go_roundw
              case rel => exact ⟨k2 + 1, nn + x.bs.length, pre, by omega, by go_num, by go_num, by omega, hJ3, HE, hk3, hD3, qt3⟩
              case measure => simp [intOf]; omega
        · have hlt2' : ¬ (k2 : Int) < (c.cl.length : Int) := by omega
          have HE : Hid (pre.map (·.1) = L) := Eq.trans (by rw [List.drop_eq_nil_of_le (by omega)]; simp [clNum]) HP3.out
          gi_wp2
          go_end0
          exact ⟨⟨_, rfl⟩, .inl ⟨_, HE.out, hJ2⟩⟩

theorem believed_stops (n Bc Bt D : Nat) (c : Cs) (tf : Int → Bool) (fv : Value) (w0 w : World) (A1 A2 : Option Addr) (c1 c2 : Nat)
    (hB : Bounds w0 A1 c.bs) (hC : Claims w0 A2 c.cl) (hfv : FnP Try.prog fv w0 IntR anyx tf) (hD0 : w0.heap.size ≤ D) (hBc : Bc ≠ D) (hBt : Bt ≠ D)
    (hs1 : c.all.length ≤ 9223372036854775807) (hs2 : c.cl.length ≤ 9223372036854775807) (hk0 : Kc w0 w) (hDW : D < w.heap.size)
    (k1 : w.cell? ⟨Bc, 1, none⟩ = some (.slice A1 c.bs.length c1)) (k3 : w.cell? ⟨Bc, 3, none⟩ = some (.slice A2 c.cl.length c2)) (kt : w.cell? ⟨Bt, 0, none⟩ = some fv) :
    SeqStopsK Fence.wide n Try.prog 149 #[.pointer (some ⟨Bc, 0, none⟩), .pointer (some ⟨Bt, 0, none⟩)] (encNB (L := belNum tf c)) (Cel D) (fun xs => xs.map (·.1) = belNum tf c) (fun _ => True) (belNum tf c).length w :=
  fun l J Jx W hW hJ _ hY h0 => by
    have hW : Ext w W := hW
    exact believed1_in n l Bc Bt D c tf fv w0 A1 A2 c1 c2 _ rfl J Jx hB hC hfv hD0 hBc hBt hs1 hs2 hY W hJ (hk0.trans hW.kc) (by have := hW.size; omega) (hW.cell k1) (hW.cell k3) (hW.cell kt) h0

theorem believed_any (v tv fv : Value) (c : Cs) (w : World) (htv : tv = .agg #[fv]) (hf : ∃ g fst lb, fv = .func (.func g) fst lb) (A1 A2 : Option Addr) (c1 c2 : Nat) (hv : v = .agg #[.int .i64 c.ev, .slice A1 c.bs.length c1, .int .i64 c.wi, .slice A2 c.cl.length c2]) :
    Calls Try.prog 137 #[v, tv] w fun e w' => e = .returned (.func (.func 149) #[] #[.pointer (some ⟨w.heap.size, 0, none⟩), .pointer (some ⟨w.heap.size + 1, 0, none⟩)]) ∧
      w' = (w.alloc (.cells #[.int .i64 c.ev, .slice A1 c.bs.length c1, .int .i64 c.wi, .slice A2 c.cl.length c2] 26)).alloc (.cells #[fv] 160) := by
  obtain ⟨g, fst, lb, rfl⟩ := hf
  subst hv htv
  go_enter Try.func137, Try.ntmps137
  go_wp2
  go_ret
  exact ⟨rfl, rfl⟩
end Go.Proofs.Ytgnjhaomlbkgcaa
