/- The walks of agree and rest of the laws of layer 8, and their plain side. -/
import Derived.Test.YtjnobdcbbboeeaaGreatBLwc
import Derived.Test.YtjnobdcbbboeeaaGreatBCon
namespace Go.Proofs.YtjnobdcbbboeeaaGreat
open Go Go.RowKit Go.Shelf
set_option linter.unusedVariables false
set_option linter.unusedSimpArgs false

/-- Some weighings agree. -/
def agrL (h : Hs) (l : List Int) : Bool := !(l.any fun a => l.any fun b => claL h a.toNat b.toNat)
/-- The weighings that are not in a list. -/
def restK (l : List Int) (k : Nat) : List Int := ((List.range k).filter fun (n : Nat) => !memI (n : Int) l).map fun (n : Nat) => (n : Int)
def rstL (h : Hs) (l : List Int) : List Int := restK l h.ws.length
theorem restK_next (l : List Int) (k : Nat) : restK l (k + 1) = restK l k ++ if memI (k : Int) l = true then [] else [(k : Int)] := by
  unfold restK
  rw [List.range_succ, List.filter_append, List.map_append]
  congr 1
  cases e : memI (k : Int) l <;> simp [e]
theorem restK_len (l : List Int) (k : Nat) : (restK l k).length ≤ k := by
  unfold restK
  rw [List.length_map]
  exact Nat.le_trans (List.length_filter_le _ _) (by simp)
theorem mem_restK {l : List Int} {k : Nat} {x : Int} : x ∈ restK l k ↔ (0 ≤ x ∧ x < (k : Int)) ∧ x ∉ l := by
  unfold restK
  simp only [List.mem_map, List.mem_filter, List.mem_range]
  constructor
  · rintro ⟨n, ⟨h1, h2⟩, rfl⟩
    refine ⟨by omega, fun e => ?_⟩
    rw [mem_memI.2 e] at h2; cases h2
  · rintro ⟨h1, h2⟩
    obtain ⟨n, rfl⟩ : ∃ n : Nat, x = n := ⟨x.toNat, by omega⟩
    refine ⟨n, ⟨by omega, ?_⟩, rfl⟩
    have : memI (n : Int) l = false := by rw [Bool.eq_false_iff]; exact fun e => h2 (mem_memI.1 e)
    rw [this]; rfl
/-- What is left agrees just if the list covers all clashes. -/
theorem agr_rest {h : Hs} (k : HsOK h) (l : List Int) : agrL h (rstL h l) = covH h l := by
  rw [Bool.eq_iff_iff, cov_iff]
  unfold agrL
  rw [Bool.not_eq_true', List.any_eq_false]
  constructor
  · intro q a b ha hb
    by_cases m1 : (a : Int) ∈ l
    · exact .inl m1
    by_cases m2 : (b : Int) ∈ l
    · exact .inr m2
    obtain ⟨hb1, hb2⟩ := mem_bel.1 hb
    have q1 := q (a : Int) (mem_restK.2 ⟨by omega, m1⟩)
    exfalso
    refine q1 ?_
    rw [List.any_eq_true]
    exact ⟨(b : Int), mem_restK.2 ⟨by omega, m2⟩, by rw [Int.toNat_natCast, Int.toNat_natCast, claL_is k ha hb1]; exact hb2⟩
  · intro q a ha hany
    obtain ⟨b, hb, hc⟩ := List.any_eq_true.1 hany
    obtain ⟨h1, h2⟩ := mem_restK.1 ha
    obtain ⟨h3, h4⟩ := mem_restK.1 hb
    obtain ⟨x, rfl⟩ : ∃ n : Nat, a = n := ⟨a.toNat, by omega⟩
    obtain ⟨y, rfl⟩ : ∃ n : Nat, b = n := ⟨b.toNat, by omega⟩
    rw [Int.toNat_natCast, Int.toNat_natCast, claL_is k (by omega) (by omega)] at hc
    rcases q x y (by omega) (mem_bel.2 ⟨by omega, hc⟩) with e | e
    · exact h2 e
    · exact h4 e
set_option maxHeartbeats 1000000 in
theorem agr2_fn (A : Option Addr) (c N : Nat) (h : Hs) (k : HsOK h) (a : Nat) (hN : h.ws.length = N) (ha : a < N) (w : World) (Ph Pa : Nat) (hr : HsR w (.agg #[.int .i64 h.mo, .int .i64 h.pk, .slice A N c]) h)
    (p0 : w.cell? ⟨Ph, 0, none⟩ = some (.int .i64 h.mo)) (p1 : w.cell? ⟨Ph, 1, none⟩ = some (.int .i64 h.pk)) (p2 : w.cell? ⟨Ph, 2, none⟩ = some (.slice A N c)) (pa : w.cell? ⟨Pa, 0, none⟩ = some (.int .i64 (a : Int))) :
    FnP Tryz.prog (.func (.func 48) #[] #[.pointer (some ⟨Ph, 0, none⟩), .pointer (some ⟨Pa, 0, none⟩)]) w IntR (fun x => 0 ≤ x ∧ x < (N : Int)) (fun x => claL h a x.toNat) := by
  refine ⟨_, _, _, rfl, enters_of Tryz.func48 (by kernel_rfl) rfl, fun x v W hs hW hR => ?_⟩
  obtain rfl : v = .int .i64 x := hR
  obtain ⟨b, rfl⟩ : ∃ b : Nat, x = b := ⟨x.toNat, by omega⟩
  have K := lclash_any _ h a b W (hr.kc hW) k (by rw [hN]; exact ha) (by rw [hN]; omega)
  have e1 : ((b : Int)).toNat = b := Int.toNat_natCast b
  obtain ⟨R, hR⟩ : ∃ R, claL h a b = R := ⟨_, rfl⟩
  have HR : Hid (claL h a ((b : Int)).toNat = R) := by unfold Hid; rw [e1, hR]
  rw [hR] at K
  have K := hid K
  have q0 := hW.cell p0
  have q1 := hW.cell p1
  have q2 := hW.cell p2
  have qa := hW.cell pa
  clear hs hW hR hr p0 p1 p2 pa e1 hN ha
  show Calls _ _ #[_, _, _] _ _
  go_enter Tryz.func48, Tryz.ntmps48
  go_wp2_with fail
  refine K.out.mono ?_
  rintro e w1 ⟨rfl, h1⟩
  go_wp2
  go_ret
  exact ⟨ret_of (bool_of HR.out.symm), h1⟩
set_option maxHeartbeats 1000000 in
theorem agr1_fn (A : Option Addr) (c N : Nat) (h : Hs) (k : HsOK h) (hN : h.ws.length = N) (w : World) (Pl Ph : Nat) (hr : HsR w (.agg #[.int .i64 h.mo, .int .i64 h.pk, .slice A N c]) h) (Al : Option Addr) (cl : Nat) (l : List Int) (hl : Ints w Al l) (hln : l.length ≤ 1000)
    (hin : ∀ x ∈ l, 0 ≤ x ∧ x < (N : Int)) (pl : w.cell? ⟨Pl, 0, none⟩ = some (.slice Al l.length cl))
    (p0 : w.cell? ⟨Ph, 0, none⟩ = some (.int .i64 h.mo)) (p1 : w.cell? ⟨Ph, 1, none⟩ = some (.int .i64 h.pk)) (p2 : w.cell? ⟨Ph, 2, none⟩ = some (.slice A N c)) :
    FnP Tryz.prog (.func (.func 47) #[] #[.pointer (some ⟨Pl, 0, none⟩), .pointer (some ⟨Ph, 0, none⟩)]) w IntR (fun x => 0 ≤ x ∧ x < (N : Int)) (fun x => l.any fun b => claL h x.toNat b.toNat) := by
  refine ⟨_, _, _, rfl, enters_of Tryz.func47 (by kernel_rfl) rfl, fun x v W hs hW hR => ?_⟩
  obtain rfl : v = .int .i64 x := hR
  obtain ⟨a, rfl⟩ : ∃ a : Nat, x = a := ⟨x.toNat, by omega⟩
  obtain ⟨W1, hW1⟩ : ∃ W1, W.alloc (.cells #[.int .i64 (a : Int)] 3) = W1 := ⟨_, rfl⟩
  have hx1 : Ext W W1 := by rw [← hW1]; exact Ext.alloc (Ext.refl W) _
  have b1 : W1.heap[W.heap.size]? = some (.cells #[.int .i64 (a : Int)] 3 (0, 0)) := by rw [← hW1]; exact heap_alloc_new W _
  have ca : W1.cell? ⟨W.heap.size, 0, none⟩ = some (.int .i64 (a : Int)) := by rw [cell_of_row W1 W.heap.size 0 _ _ _ b1]; rfl
  have hk1 : Kc w W1 := hW.trans hx1.kc
  have K := containsFunc_int Al cl l _ _ _ W1 (hl.kc hk1) (by omega) hin (agr2_fn A c N h k a hN (by omega) W1 Ph W.heap.size (hr.kc hk1) (hk1.cell p0) (hk1.cell p1) (hk1.cell p2) ca)
  have e1 : ((a : Int)).toNat = a := Int.toNat_natCast a
  obtain ⟨R, hR⟩ : ∃ R, (l.any fun b => claL h a b.toNat) = R := ⟨_, rfl⟩
  have HR : Hid ((l.any fun b => claL h ((a : Int)).toNat b.toNat) = R) := by unfold Hid; rw [e1, hR]
  rw [hR] at K
  obtain ⟨n, hn⟩ : ∃ n, l.length = n := ⟨_, rfl⟩
  rw [hn] at K pl
  have K := hid K
  have ql := hk1.cell pl
  have HW1 := hid hW1
  clear hs hW hR hr p0 p1 p2 pl e1 hN hln hn hl hW1 b1 hk1 ca
  show Calls _ _ #[_, _, _] _ _
  go_enter Tryz.func47, Tryz.ntmps47
  go_upto_region 1 with fail
  rw [HW1.out]
  clear HW1
  go_wp2_with fail
  refine K.out.mono ?_
  rintro e w1 ⟨rfl, h1⟩
  go_wp2
  go_ret
  exact ⟨ret_of (bool_of HR.out.symm), hx1.trans h1⟩
set_option maxHeartbeats 1000000 in
theorem lagree_any (v : Value) (h : Hs) (k : HsOK h) (w : World) (hr : HsR w v h) (Al : Option Addr) (cl : Nat) (l : List Int) (hl : Ints w Al l) (hln : l.length ≤ 1000) (hin : ∀ x ∈ l, 0 ≤ x ∧ x < (h.ws.length : Int)) :
    Calls Tryz.prog 14 #[v, .slice Al l.length cl] w fun e w' => e = .returned (.bool (agrL h l)) ∧ Ext w w' := by
  obtain ⟨A, c, rfl, hrw, hcap⟩ := hr
  obtain ⟨N, hN⟩ : ∃ N : Nat, h.ws.length = N := ⟨_, rfl⟩
  obtain ⟨n, hn⟩ : ∃ n : Nat, l.length = n := ⟨_, rfl⟩
  unfold hval
  obtain ⟨W1, hW1⟩ : ∃ W1, (w.alloc (.cells #[.int .i64 h.mo, .int .i64 h.pk, .slice A N c] 25)).alloc (.cells #[.slice Al n cl] 31) = W1 := ⟨_, rfl⟩
  have hx1 : Ext w W1 := by rw [← hW1]; exact (Ext.refl w).alloc _ |>.alloc _
  have b1 : W1.heap[w.heap.size]? = some (.cells #[.int .i64 h.mo, .int .i64 h.pk, .slice A N c] 25 (0, 0)) := by rw [← hW1]; exact (Below.heap_alloc _ _ _ (by simp)).trans (heap_alloc_new w _)
  have b2 : W1.heap[w.heap.size + 1]? = some (.cells #[.slice Al n cl] 31 (0, 0)) := by
    rw [← hW1]
    have q := heap_alloc_new (w.alloc (.cells #[.int .i64 h.mo, .int .i64 h.pk, .slice A N c] 25)) (.cells #[.slice Al n cl] 31)
    rw [World.size_alloc] at q
    exact q
  obtain ⟨q0, q1, q2, -⟩ := house_cells b1
  have ql : W1.cell? ⟨w.heap.size + 1, 0, none⟩ = some (.slice Al n cl) := by rw [cell_of_row W1 _ 0 _ _ _ b2]; rfl
  have hr1 : HsR W1 (.agg #[.int .i64 h.mo, .int .i64 h.pk, .slice A N c]) h := ⟨A, c, by unfold hval; rw [hN], hrw.ext hx1, hcap⟩
  have K := containsFunc_int Al cl l _ _ _ W1 (hl.ext hx1) (by omega) (by rw [← hN]; exact hin) (agr1_fn A c N h k hN W1 (w.heap.size + 1) w.heap.size hr1 Al cl l (hl.ext hx1) hln (by rw [← hN]; exact hin) (by rw [hn]; exact ql) q0 q1 q2)
  obtain ⟨R, hR⟩ : ∃ R, (l.any fun a => l.any fun b => claL h a.toNat b.toNat) = R := ⟨_, rfl⟩
  have HR : Hid (agrL h l = !R) := by unfold Hid agrL; rw [hR]
  rw [hR, hn] at K
  have K := hid K
  have HW1 := hid hW1
  rw [hN, hn]
  clear hR hr1 hrw hcap hl hln hin hW1 b1 b2 hN hn q0 q1 q2
  go_enter Tryz.func14, Tryz.ntmps14
  go_upto_region 1 with fail
  rw [HW1.out]
  clear HW1
  go_wp2_with fail
  refine K.out.mono ?_
  rintro e w1 ⟨rfl, h1⟩
  go_wp2
  go_ret
  exact ⟨ret_of (bool_of HR.out.symm), hx1.trans h1⟩
set_option maxRecDepth 100000 in
set_option maxHeartbeats 4000000 in
theorem rest_any (v : Value) (h : Hs) (w : World) (hr : HsR w v h) (hs : h.ws.length ≤ 1000) (Al : Option Addr) (cl : Nat) (l : List Int) (hl : Ints w Al l) (hln : l.length ≤ 1000) :
    Calls Tryz.prog 15 #[v, .slice Al l.length cl] w fun e w' => ∃ A c, e = .returned (.slice A (rstL h l).length c) ∧ w'.ownsRow w.heap.size 3 1 (.slice A (rstL h l).length c) (rstL h l).length ((rstL h l).map (.int .i64)) ∧ Ext w w' := by
  obtain ⟨A, c, rfl, hrw, hcap⟩ := hr
  obtain ⟨N, hN⟩ : ∃ N : Nat, h.ws.length = N := ⟨_, rfl⟩
  obtain ⟨n, hn⟩ : ∃ n : Nat, l.length = n := ⟨_, rfl⟩
  have HLS : Hid (rstL h l = restK l N) := by unfold Hid rstL; rw [hN]
  have HC : Hid (∀ (k : Nat) w', Ext w w' → _) := fun k w' hx => containsI_any (k : Int) Al cl l w' (hl.ext hx) (by omega)
  rw [hn] at HC
  unfold hval
  rw [hN] at hs ⊢
  rw [hn]
  obtain ⟨W1, hW1⟩ : ∃ W1, w.alloc (.cells #[.int .i64 h.mo, .int .i64 h.pk, .slice A N c] 25) = W1 := ⟨_, rfl⟩
  have hx1 : Ext w W1 := by rw [← hW1]; exact (Ext.refl w).alloc _
  have b1 : W1.heap[w.heap.size]? = some (.cells #[.int .i64 h.mo, .int .i64 h.pk, .slice A N c] 25 (0, 0)) := by rw [← hW1]; exact heap_alloc_new w _
  obtain ⟨q0, q1, q2, -⟩ := house_cells b1
  have HW1 := hid hW1
  clear hrw hcap hl hln hW1 b1 hN hn
  go_enter Tryz.func15, Tryz.ntmps15
  go_upto_region 2 with fail
  rw [HW1.out]
  clear HW1
  go_wp2
  clear q0 q1 q2
  go_loopw [5, 10] (fun s5 i wr => ∃ (k m : Nat) (A' : Option Addr) (c' : Nat), i = .int .i64 (k : Int) ∧ k ≤ N ∧ Hid ((restK l k).length = m) ∧ m ≤ k ∧ s5 = .slice A' m c' ∧ wr.ownsRow w.heap.size 3 1 (.slice A' m c') m ((restK l k).map (.int .i64)) ∧ Ext w wr) (fun _ i _ => N - (intOf i).toNat)
  case atStart => exact ⟨0, 0, none, 0, rfl, Nat.zero_le _, rfl, Nat.le_refl _, rfl, own_nil _ _ _ _, hx1⟩
  case round =>
    obtain ⟨k, m, A', c', rfl, hk, HKL, hmk, rfl, ho, hx⟩ := hrel
    by_cases hlt : k < N
    · have hlt' : (k : Int) < (N : Int) := by omega
      have HNX := hid (restK_next l k)
      obtain ⟨B, hB⟩ : ∃ B, memI (k : Int) l = B := ⟨_, rfl⟩
      have KC := HC.out k wr hx
      rw [hB] at KC HNX
      have KC := hid KC
      clear hB
      go_wp2_with fail
      refine KC.out.mono ?_
      rintro e w1 ⟨rfl, rfl⟩
      clear KC
      cases B with
      | true =>
        have HN2 : Hid (restK l (k + 1) = restK l k) := by unfold Hid; rw [HNX.out]; simp
        clear HNX
        go_wp2
        go_roundw
        case rel => exact ⟨k + 1, m, A', c', by go_num, by omega, by unfold Hid; rw [HN2.out]; exact HKL.out, by omega, rfl, by rw [HN2.out]; exact ho, hx⟩
        case measure => simp [intOf]; omega
      | false =>
        have HN2 : Hid (restK l (k + 1) = restK l k ++ [(k : Int)]) := by unfold Hid; rw [HNX.out]; simp
        have hwz := hx.size
        clear HNX
        go_wp2_with (at_builtin; refine wpList_append_rd2 _ rfl _ _ 31 rfl elem_int w.heap.size _ m ((restK l k).map (.int .i64)) rfl (own_below ho (Ext.alloc (Ext.refl _) _)) (some ⟨wr.heap.size, 0, none⟩) 1 1 [.int .i64 (k : Int)] rfl rfl (rd_blk2 (heap_alloc_new wr _)) (by intro u hu; simp at hu; subst hu; rfl) (by omega) (by simp; omega) ?_)
        intro A5 c5 w5 own5 bel5 gr5 at5
        have gr5' : (wr.alloc (.cells #[.int .i64 (k : Int)] 3)).grownBy w5 (Value.slice A' m c').ownBlock := gr5
        have hxN : Ext w w5 := Ext.grown (hx.alloc (.cells #[.int .i64 (k : Int)] 3)) gr5' (fun j e => by have := (ho.lt j e).1; omega)
        rw [show (restK l k).map (Value.int .i64) ++ [.int .i64 (k : Int)] = (restK l (k + 1)).map (.int .i64) from by rw [HN2.out]; simp] at own5
        have HO5 := hid own5
        clear own5 bel5 gr5 gr5' at5
        go_wp2
        go_roundw
        case rel => exact ⟨k + 1, m + 1, A5, c5, by go_num, by omega, by unfold Hid; rw [HN2.out, List.length_append, HKL.out]; rfl, by omega, rfl, HO5.out, hxN⟩
        case measure => simp [intOf]; omega
    · have hlt' : ¬ (k : Int) < (N : Int) := by omega
      obtain rfl : k = N := by omega
      have HF := hid (And.intro ho hx)
      clear ho hx
      go_wp2
      go_ret
      rw [HLS.out, HKL.out]
      exact ⟨A', c', rfl, HF.out.1, HF.out.2⟩
end Go.Proofs.YtjnobdcbbboeeaaGreat
