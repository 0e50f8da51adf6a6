/- The walks of the reference's Set, List, before, Fewest and Proves of layer 8. Printed by my gen_brf4.py. -/
import Derived.Test.YtjnobdcbbboeeaaBRf3
import Derived.Test.YtjnobdcbbboeeaaH9
namespace Go.Proofs.Ytjnobdcbbboeeaa
open Go Go.RowKit Go.Shelf
set_option linter.unusedVariables false
set_option linter.unusedSimpArgs false

theorem pow14 {N : Nat} (h : N ≤ 14) : 2 ^ N ≤ 16384 ∧ 1 ≤ 2 ^ N := by
  have : 2 ^ N ≤ 2 ^ 14 := Nat.pow_le_pow_right (by decide) h
  exact ⟨by omega, Nat.one_le_two_pow⟩
theorem pow_cast (N : Nat) : (2 : Int) ^ N = ((2 ^ N : Nat) : Int) := by push_cast; rfl
theorem shl14 {N : Nat} (h : N ≤ 14) : wrap64 ((2 : Int) ^ N) = ((2 ^ N : Nat) : Int) := by
  have := pow14 h
  have e : (2 : Int) ^ N = ((2 ^ N : Nat) : Int) := by push_cast; rfl
  rw [e]
  unfold wrap64
  omega
theorem rown_ne {w : World} {base e size n : Nat} {v : Value} {xs : List Value} {X : Nat} {cs : Array Value} {t : TypeId} {m : Nat × Nat} (h : w.ownsRow base e size v n xs) (hX : w.heap[X]? = some (.cells cs t m)) (hne : t ≠ e) : v.ownBlock ≠ some X := by
  intro hq
  rcases h.2 with ⟨rfl, _⟩ | ⟨g, cap, cur, rfl, _, hg, _⟩
  · cases hq
  · cases hq
    rw [hX] at hg
    cases hg
    exact hne rfl
theorem own_bool {w w' : World} {base n : Nat} {v : Value} {xs : List Value} {B : Nat} {l : List Bool} (h : w.ownsRow base 3 1 v n xs) (hb : Brow w B l) (hx : Bel B w w') : w'.ownsRow base 3 1 v n xs :=
  hx.own h fun g hg e => rown_ne h hb (by decide) (by rw [hg, e])
theorem upd_mem (D0 : Nat → Bool) {L : List Int} {k j : Nat} (hy : L[k]? = some (j : Int)) : upd1 (fun x : Nat => D0 x || memI (x : Int) (L.take k)) j true = fun x : Nat => D0 x || memI (x : Int) (L.take (k + 1)) := by
  funext x
  unfold upd1
  rw [List.take_add_one, hy]
  by_cases e : x = j
  · subst e
    rw [if_pos rfl]
    have : memI (x : Int) (L.take k ++ (some (x : Int)).toList) = true := mem_memI.2 (by simp)
    rw [this, Bool.or_true]
  · rw [if_neg e]
    have : memI (x : Int) (L.take k ++ (some (j : Int)).toList) = memI (x : Int) (L.take k) := by
      rw [Bool.eq_iff_iff, mem_memI, mem_memI]
      simp only [Option.toList_some, List.mem_append, List.mem_singleton]
      constructor
      · rintro (h | h)
        · exact h
        · omega
      · exact .inl
    rw [this]
theorem mem_take_full {L : List Int} {k : Nat} (hk : L.length ≤ k) (x : Int) : memI x (L.take k) = memI x L := by rw [List.take_of_length_le hk]
theorem take_zero_mem (x : Int) (L : List Int) : memI x (L.take 0) = false := rfl
/-- The best list that was found. -/
def BestH (w : World) (base : Nat) (s : Value) (O : Option (List Int)) : Prop := match O with
  | none => s = .slice none 0 0
  | some b => ∃ A c, s = .slice A b.length c ∧ w.ownsRow base 3 1 (.slice A b.length c) b.length (icells b)
theorem BestH.ext {w w' : World} {base : Nat} {s : Value} {O : Option (List Int)} (h : BestH w base s O) (hx : Ext w w') : BestH w' base s O := by
  cases O with
  | none => exact h
  | some b => obtain ⟨A, c, e, ho⟩ := h; exact ⟨A, c, e, own_below ho hx⟩
theorem BestH.bel {w w' : World} {base : Nat} {s : Value} {O : Option (List Int)} {B : Nat} {l : List Bool} (h : BestH w base s O) (hb : Brow w B l) (hx : Bel B w w') : BestH w' base s O := by
  cases O with
  | none => exact h
  | some b => obtain ⟨A, c, e, ho⟩ := h; exact ⟨A, c, e, own_bool ho hb hx⟩
set_option maxRecDepth 100000 in
set_option maxHeartbeats 1000000 in
theorem refset_any (v : Value) (h : Hs) (n : Nat) (w : World) (hr : HsR w v h) (hl : h.ws.length ≤ 1000) (hn6 : n ≤ 1000000) :
    Calls Try.prog 93 #[v, .int .i64 (n : Int)] w fun e w' => ∃ B, e = .returned (.slice (some ⟨B, 0, none⟩) h.ws.length h.ws.length) ∧ w.heap.size ≤ B ∧ Brow w' B (rl h.ws.length (bit n)) ∧ Ext w w' := by
  obtain ⟨A, c, rfl, hrw, hcap⟩ := hr
  obtain ⟨W0, hW0⟩ : ∃ W0, w.alloc (.cells #[.int .i64 h.mo, .int .i64 h.pk, .slice A h.ws.length c] 75) = W0 := ⟨_, rfl⟩
  have hx0 : Ext w W0 := by rw [← hW0]; exact Ext.alloc (Ext.refl w) _
  have b0 : W0.heap[w.heap.size]? = some (.cells #[.int .i64 h.mo, .int .i64 h.pk, .slice A h.ws.length c] 75 (0, 0)) := by rw [← hW0]; exact heap_alloc_new w _
  have FH : Hid (∀ w', Ext W0 w' → w'.cell? ⟨w.heap.size, 0, none⟩ = some (.int .i64 h.mo) ∧ w'.cell? ⟨w.heap.size, 1, none⟩ = some (.int .i64 h.pk) ∧ w'.cell? ⟨w.heap.size, 2, none⟩ = some (.slice A h.ws.length c)) := fun w' hx => by
    obtain ⟨q0, q1, q2, -⟩ := rhouse_cells b0
    exact ⟨hx.cell q0, hx.cell q1, hx.cell q2⟩
  have HRW : Hid (∀ w', Ext W0 w' → Wgs w' A h.ws) := fun w' hx => Rows.ext hrw (hx0.trans hx)
  have HW0 := hid hW0
  obtain ⟨N, hN⟩ : ∃ N : Nat, h.ws.length = N := ⟨_, rfl⟩
  have KN := hid (refnone_any (hval h A c) h W0 ⟨A, c, rfl, HRW.out W0 (Ext.refl _), hcap⟩ hl)
  unfold hval at KN
  rw [hN] at hl FH hW0 HW0 KN ⊢
  unfold hval
  rw [hN]
  obtain ⟨c0, c1, c2⟩ := FH.out W0 (Ext.refl _)
  clear hN hrw hcap HRW hW0
  go_enter Try.func93, Try.ntmps93
  go_upto_region 1 with fail
  rw [HW0.out]
  clear HW0
  go_wp2_with fail
  refine KN.out.mono ?_
  rintro e W2 ⟨B, rfl, hB, hI0, hxW2⟩
  clear KN c0 c1 c2
  have hI0 : Brow W2 B (rl N fun x => decide (x < 0) && bit n x) := by
    rw [show (fun x : Nat => decide (x < 0) && bit n x) = fun _ => false from funext fun x => by simp]; exact hI0
  have hx2 : Ext w W2 := hx0.trans hxW2
  have hgw : w.heap.size ≤ B := by have := hx0.size; omega
  go_wp2
  go_loopw [1, 6] (fun s1 i wr => ∃ k : Nat, k ≤ N ∧ i = .int .i64 (k : Int) ∧ s1 = .int .i64 ((n / 2 ^ k : Nat) : Int) ∧ Brow wr B (rl N fun x => decide (x < k) && bit n x) ∧ Ext w wr) (fun _ i _ => N - (intOf i).toNat)
  case atStart => exact ⟨0, Nat.zero_le _, rfl, by simp, hI0, hx2⟩
  case round =>
    obtain ⟨k, hk, rfl, rfl, hI, hx⟩ := hrel
    by_cases hlt : k < N
    · have hlt' : (k : Int) < (N : Int) := by omega
      have hcell := hI.at_ (rl_get _ hlt)
      have hfz := hI.frozen k
      have hI2 := hI.set k (bit n k)
      rw [← rl_upd] at hI2
      have hfn : upd1 (fun x : Nat => decide (x < k) && bit n x) k (bit n k) = fun x : Nat => decide (x < k + 1) && bit n x := by
        funext x; unfold upd1
        by_cases e : x = k
        · subst e; simp
        · rw [if_neg e]
          have hd : decide (x < k) = decide (x < k + 1) := by rw [decide_eq_decide]; omega
          show (decide (x < k) && bit n x) = (decide (x < k + 1) && bit n x)
          rw [hd]
      rw [hfn] at hI2
      have HI2 := hid hI2
      have hm6 : n / 2 ^ k ≤ n := Nat.div_le_self _ _
      have HQ : Hid ((((n / 2 ^ k : Nat) : Int)) / 2 = ((n / 2 ^ (k + 1) : Nat) : Int)) := by
        unfold Hid
        rw [Nat.pow_succ, ← Nat.div_div_eq_div_mul]; omega
      have hbit : ((((n / 2 ^ k : Nat) : Int)) % 2 == 1) = bit n k := by
        unfold bit
        rw [Bool.eq_iff_iff]
        simp only [beq_iff_eq, decide_eq_true_eq]
        omega
      generalize n / 2 ^ k = m at *
      clear hfn hI2 hI
      go_wp2
      go_roundw
      case rel => exact ⟨k + 1, by omega, by go_num, by rw [← HQ.out], HI2.out, hx.setCell hgw _⟩
      case measure => simp [intOf]; omega
    · have hlt' : ¬ (k : Int) < (N : Int) := by omega
      have hI2 : Hid (Brow wr B (rl N (bit n))) := by
        have e : rl N (fun x => decide (x < k) && bit n x) = rl N (bit n) := List.map_congr_left fun x hx => by have := List.mem_range.1 hx; rw [decide_eq_true (by omega)]; rfl
        rw [e] at hI; exact hI
      clear hI
      go_wp2
      go_ret
      exact ⟨_, rfl, hgw, hI2.out, hx⟩
set_option maxRecDepth 100000 in
set_option maxHeartbeats 1000000 in
theorem reflist_any (A : Option Addr) (kb N : Nat) (P : Nat → Bool) (w : World) (hA : Bools w A (rl N P)) (hN : N ≤ 1000) :
    Calls Try.prog 94 #[.slice A N kb] w fun e w' => ∃ A' c', e = .returned (.slice A' (someW P N).length c') ∧ w'.ownsRow w.heap.size 3 1 (.slice A' (someW P N).length c') (someW P N).length (icells (someW P N)) ∧ Ext w w' := by
  go_enter Try.func94, Try.ntmps94
  go_wp2
  go_loopw [3, 4] (fun s i wr => ∃ (k : Nat) (A' : Option Addr) (c' : Nat), k ≤ N ∧ i = .int .i64 (k : Int) ∧ s = .slice A' (someW P k).length c' ∧ Ext w wr ∧ Hid (wr.ownsRow w.heap.size 3 1 (.slice A' (someW P k).length c') (someW P k).length (icells (someW P k)))) (fun _ i _ => N - (intOf i).toNat)
  case atStart => exact ⟨0, none, 0, Nat.zero_le _, rfl, rfl, Ext.refl _, own_nil _ _ _ _⟩
  case round =>
    obtain ⟨k, A', c', hk, rfl, rfl, hx, O⟩ := hrel
    by_cases hlt : k < N
    · have hlt' : (k : Int) < (N : Int) := by omega
      obtain ⟨b, off, rfl, g0⟩ := (hA.ext hx).at_ (rl_get P hlt)
      have hlen := someW_len P k
      have hsz := hx.size
      cases hq : P k
      · rw [hq] at g0
        have HE : Hid (someW P (k + 1) = someW P k) := by unfold Hid; rw [someW_snoc, hq]; simp
        clear hq
        go_wp2
        go_roundw
        case rel => exact ⟨k + 1, A', c', by omega, by go_num, by rw [HE.out], hx, by unfold Hid; rw [HE.out]; exact O.out⟩
        case measure => simp [intOf]; omega
      · rw [hq] at g0
        have HE : Hid (someW P (k + 1) = someW P k ++ [(k : Int)]) := by unfold Hid; rw [someW_snoc, hq]; rfl
        have hxo := Ext.alloc (Ext.refl wr) (.cells #[.int .i64 (k : Int)] 3)
        have hbase : w.heap.size ≤ (wr.alloc (.cells #[.int .i64 (k : Int)] 3)).heap.size := by have := hxo.size; omega
        have O2 := hid (own_below O.out hxo)
        have hFk : ((someW P k).length + 1) * 8 ≤ 140737488355328 := by omega
        clear O hq
        go_wp2_with (at_builtin; refine wpList_append_rd _ rfl _ _ 64 rfl elem_int w.heap.size _ (someW P k).length (icells (someW P k)) rfl O2.out _ 1 1 (icells [(k : Int)]) rfl rfl (rd_blk2 (heap_alloc_new wr _)) (icells_one _) hFk hbase ?_)
        intro A5 c5 w5 hown5 hbel5 hgr5 _
        have hx5 : Ext w w5 := Below.trans (hx.trans hxo) hbel5
        have O5 : Hid (w5.ownsRow w.heap.size 3 1 (.slice A5 (someW P (k + 1)).length c5) (someW P (k + 1)).length (icells (someW P (k + 1)))) := by
          unfold Hid; rw [HE.out, icells_app, List.length_append]; exact hown5
        clear hown5 hbel5 hgr5 O2 hxo
        go_wp2
        go_roundw
        case rel => exact ⟨k + 1, A5, c5, by omega, by go_num, by rw [HE.out, List.length_append]; rfl, hx5, O5⟩
        case measure => simp [intOf]; omega
    · have hlt' : ¬ (k : Int) < (N : Int) := by omega
      obtain rfl : k = N := by omega
      have hO := O.out
      clear O
      go_wp2
      go_ret
      exact ⟨A', c', rfl, hO, hx⟩

theorem cmp_drop {a b : List Int} {k : Nat} {x y : Int} (hx : a[k]? = some x) (hy : b[k]? = some y) : cmpL (a.drop k) (b.drop k) = if x < y then -1 else if y < x then 1 else cmpL (a.drop (k + 1)) (b.drop (k + 1)) := by
  have h1 : k < a.length := (List.getElem?_eq_some_iff.1 hx).1
  have h2 : k < b.length := (List.getElem?_eq_some_iff.1 hy).1
  rw [List.drop_eq_getElem_cons h1, List.drop_eq_getElem_cons h2, (List.getElem?_eq_some_iff.1 hx).2, (List.getElem?_eq_some_iff.1 hy).2]
  rfl

set_option maxRecDepth 100000 in
set_option maxHeartbeats 1000000 in
theorem refbefore_any (A A' : Option Addr) (ka kb : Nat) (a b : List Int) (w : World) (hA : Ints w A a) (hB : Ints w A' b) (hla : a.length ≤ 1000000) (hlb : b.length ≤ 1000000) :
    Calls Try.prog 96 #[.slice A a.length ka, .slice A' b.length kb] w fun e w' => e = .returned (.bool (fewerL a b)) ∧ Ext w w' := by
  obtain ⟨R, hR⟩ : ∃ R, fewerL a b = R := ⟨_, rfl⟩
  have HR := hid hR
  rw [hR]
  clear hR
  by_cases hlen : a.length = b.length
  case neg =>
    have hne : ((a.length : Int) != (b.length : Int)) = true := by simpa using fun h => hlen (by omega)
    have HE : Hid (R = decide (a.length < b.length)) := by
      unfold Hid
      rw [← HR.out]
      unfold fewerL
      have : (a.length == b.length) = false := by simpa using hlen
      rw [this, Bool.false_and, Bool.or_false]
    go_enter Try.func96, Try.ntmps96
    go_wp2
    go_ret
    exact ⟨ret_of (bool_of HE.out.symm), Ext.refl _⟩
  have hne : ((a.length : Int) != (b.length : Int)) = false := by simp [hlen]
  have HE : Hid (R = decide (cmpL (a.drop 0) (b.drop 0) < 0)) := by
    unfold Hid
    rw [← HR.out]
    unfold fewerL
    rw [decide_eq_false (by omega), Bool.false_or, hlen]
    simp
  have HLE := hid hlen
  have hl2 : (a.length : Int) = (b.length : Int) := by omega
  go_enter Try.func96, Try.ntmps96
  go_wp2
  go_loopw [5] (fun i wr => ∃ k : Nat, k ≤ a.length ∧ i = .int .i64 (k : Int) ∧ Ext w wr ∧ Hid (R = decide (cmpL (a.drop k) (b.drop k) < 0))) (fun i _ => a.length - (intOf i).toNat)
  case atStart => exact ⟨0, Nat.zero_le _, rfl, Ext.refl _, HE⟩
  case round =>
    obtain ⟨k, hk, rfl, hx, HQ⟩ := hrel
    by_cases hlt : k < a.length
    · have hlt' : (k : Int) < (a.length : Int) := by omega
      have hlt2 : (k : Int) < (b.length : Int) := by omega
      obtain ⟨x, hxk⟩ := get_of_lt a k hlt
      obtain ⟨y, hyk⟩ := get_of_lt b k (by omega)
      obtain ⟨b1, o1, rfl, c1⟩ := (hA.ext hx).at_ hxk
      obtain ⟨b2, o2, rfl, c2⟩ := (hB.ext hx).at_ hyk
      have HC := hid (cmp_drop hxk hyk)
      clear hxk hyk hl2
      by_cases hxy : x = y
      · subst hxy
        have n1 : (x != x) = false := by simp
        have HQ2 : Hid (R = decide (cmpL (a.drop (k + 1)) (b.drop (k + 1)) < 0)) := by
          unfold Hid
          rw [HQ.out, HC.out, if_neg (by omega), if_neg (by omega)]
        clear HQ HC
        go_wp2
        go_quiet (fail)
        go_wp2
        go_roundw
        case rel => exact ⟨k + 1, by omega, by go_num, hx.drewN _, HQ2⟩
        case measure => simp [intOf]; omega
      · have n1 : (x != y) = true := by simpa using hxy
        have HQ2 : Hid (R = decide (x < y)) := by
          unfold Hid
          rw [HQ.out, HC.out, decide_eq_decide]
          by_cases h : x < y
          · rw [if_pos h]; simp [h]
          · rw [if_neg h, if_pos (by omega)]; simp [h]
        clear HQ HC
        go_wp2
        go_quiet (fail)
        go_wp2
        go_quiet (fail)
        go_wp2
        go_ret
        exact ⟨ret_of (bool_of HQ2.out.symm), (hx.drewN _).drewN _⟩
    · have hlt' : ¬ (k : Int) < (a.length : Int) := by omega
      have HQ2 : Hid (R = false) := by
        unfold Hid
        have h3 := HLE.out
        rw [HQ.out, List.drop_eq_nil_of_le (by omega), List.drop_eq_nil_of_le (by omega)]
        rfl
      clear HQ
      go_wp2
      go_ret
      exact ⟨ret_of (bool_of HQ2.out.symm), hx⟩
set_option maxRecDepth 100000 in
set_option maxHeartbeats 8000000 in
theorem reffewest_any (v : Value) (h : Hs) (w : World) (hr : HsR w v h) (k : HsOK h) :
    Calls Try.prog 38 #[v] w fun e w' => ∃ A1 c1 A2 c2, e = .returned (.tuple #[.slice A1 (fewH h).length c1, .slice A2 (trustH h).length c2]) ∧ Ext w w' ∧ Ints w' A1 (fewH h) ∧ Ints w' A2 (trustH h) := by
  obtain ⟨A, c, rfl, hrw, hcap⟩ := hr
  obtain ⟨W0, hW0⟩ : ∃ W0, w.alloc (.cells #[.int .i64 h.mo, .int .i64 h.pk, .slice A h.ws.length c] 75) = W0 := ⟨_, rfl⟩
  have hx0 : Ext w W0 := by rw [← hW0]; exact Ext.alloc (Ext.refl w) _
  have b0 : W0.heap[w.heap.size]? = some (.cells #[.int .i64 h.mo, .int .i64 h.pk, .slice A h.ws.length c] 75 (0, 0)) := by rw [← hW0]; exact heap_alloc_new w _
  have FH : Hid (∀ w', Ext W0 w' → w'.cell? ⟨w.heap.size, 0, none⟩ = some (.int .i64 h.mo) ∧ w'.cell? ⟨w.heap.size, 1, none⟩ = some (.int .i64 h.pk) ∧ w'.cell? ⟨w.heap.size, 2, none⟩ = some (.slice A h.ws.length c)) := fun w' hx => by
    obtain ⟨q0, q1, q2, -⟩ := rhouse_cells b0
    exact ⟨hx.cell q0, hx.cell q1, hx.cell q2⟩
  have HRW : Hid (∀ w', Ext W0 w' → Wgs w' A h.ws) := fun w' hx => Rows.ext hrw (hx0.trans hx)
  have HW0 := hid hW0
  obtain ⟨N, hN⟩ : ∃ N : Nat, h.ws.length = N := ⟨_, rfl⟩
  have HN := hid hN
  have HK := hid k
  have hmm : ∀ x ∈ h.ws, WgM x := fun x hx => wgM_of k hx
  have hN14 : N ≤ 14 := by have := k.len; omega
  obtain ⟨p2, p1⟩ := pow14 hN14
  have hsh := shl14 hN14
  have HR : Hid (∀ w', Ext W0 w' → HsR w' (.agg #[.int .i64 h.mo, .int .i64 h.pk, .slice A N c]) h) := fun w' hx => ⟨A, c, by unfold hval; rw [hN], HRW.out w' hx, hcap⟩
  have HMM := hid hmm
  rw [hN] at FH hW0 HW0
  unfold hval
  rw [hN]
  clear hN hrw hcap HRW hW0 b0 hmm k
  have KN : Hid (∀ w', Ext W0 w' → Calls Try.prog 92 #[.agg #[.int .i64 h.mo, .int .i64 h.pk, .slice A N c]] w' fun e w2 => ∃ B, e = .returned (.slice (some ⟨B, 0, none⟩) N N) ∧ w'.heap.size ≤ B ∧ Brow w2 B (rl N fun _ => false) ∧ Ext w' w2) := fun w' hx => by
    have q := refnone_any _ h w' (HR.out w' hx) (by rw [HN.out]; omega)
    rw [HN.out] at q; exact q
  have KS : Hid (∀ (n : Nat) w', n ≤ 1000000 → Ext W0 w' → Calls Try.prog 93 #[.agg #[.int .i64 h.mo, .int .i64 h.pk, .slice A N c], .int .i64 (n : Int)] w' fun e w2 => ∃ B, e = .returned (.slice (some ⟨B, 0, none⟩) N N) ∧ w'.heap.size ≤ B ∧ Brow w2 B (rl N (bit n)) ∧ Ext w' w2) := fun n w' hn hx => by
    have q := refset_any _ h n w' (HR.out w' hx) (by rw [HN.out]; omega) hn
    rw [HN.out] at q; exact q
  have KA : Hid (∀ (n g : Nat) (L : List Int) w', Ext W0 w' → someW (bit n) N = L → Brow w' g (rl N (bit n)) → Calls Try.prog 95 #[.agg #[.int .i64 h.mo, .int .i64 h.pk, .slice A N c], .slice (some ⟨g, 0, none⟩) N N] w' fun e w2 => e = .returned (.bool (covH h L)) ∧ Ext w' w2) := fun n g L w' hx hL hb => by
    have q := refagree_any _ h (some ⟨g, 0, none⟩) N (bit n) w' (HR.out w' hx) (by rw [HN.out]; exact hb.bools) HMM.out (by rw [HN.out]; omega)
    rw [agrG_bits, HN.out, hL] at q; exact q
  clear HR HMM
  obtain ⟨bF, hbF⟩ : ∃ b, fewH h = b := ⟨_, rfl⟩
  have HBF := hid hbF
  rw [hbF]
  clear hbF
  go_enter Try.func38, Try.ntmps38
  go_upto_region 1 with fail
  rw [HW0.out]
  clear HW0
  obtain ⟨c0, c1, c2⟩ := FH.out W0 (Ext.refl _)
  go_wp2_with fail
  refine (KN.out W0 (Ext.refl _)).mono ?_
  rintro e w1 ⟨B, rfl, hBz, hIz, hx1⟩
  clear c0 c1 c2
  go_wp2
  go_loopw [4, 5, 6, 7, 8, 9, 10] (fun s4 s5 s6 s7 _ _ _ wr => ∃ (n B : Nat) (O : Option (List Int)) (f : Bool), n ≤ 2 ^ N ∧ s7 = .int .i64 (n : Int) ∧ s5 = .bool f ∧ s6 = .slice (some ⟨B, 0, none⟩) N N ∧ Hid (f = O.isSome) ∧ BestH wr W0.heap.size s4 O ∧ Hid (bstF h n = O) ∧ W0.heap.size ≤ B ∧ Brow wr B (rl N (dbtF h n)) ∧ Ext W0 wr) (fun _ _ _ s7 _ _ _ _ => 2 ^ N - (intOf s7).toNat)
  case atStart => exact ⟨0, B, none, false, Nat.zero_le _, rfl, rfl, rfl, rfl, rfl, rfl, hBz, hIz, hx1⟩
  case round =>
    obtain ⟨n, B, O, f, hn, rfl, rfl, rfl, HFS, hbv, HS, hBge, hB, hx⟩ := hrel
    obtain ⟨c0, c1, c2⟩ := FH.out wr hx
    by_cases hlt : n < 2 ^ N
    · have hlt' : (n : Int) < (2 : Int) ^ N := by rw [pow_cast]; omega
      go_wp2_with fail
      clear c0 c1 c2
      refine (KS.out n wr (by omega) hx).mono ?_
      rintro e w2 ⟨g, rfl, hgge, hg, hx2⟩
      have h2 := hx.trans hx2
      have hbv2 := hbv.ext hx2
      have hB2 := hB.ext hx2
      have K := hid (reflist_any (some ⟨g, 0, none⟩) N N (bit n) w2 hg.bools (by omega))
      clear hbv hB hx hx2 hgge
      go_wp2_with fail
      refine K.out.mono ?_
      rintro e w3 ⟨A5, k5, rfl, ho5, hx3⟩
      clear K
      have HLB : Hid (∀ y ∈ someW (bit n) N, ∃ j : Nat, j < N ∧ y = (j : Int)) := fun y hy => by
        have := mem_someW.1 hy
        exact ⟨y.toNat, by omega, by omega⟩
      have hLl := someW_len (bit n) N
      obtain ⟨L, hL⟩ : ∃ L, someW (bit n) N = L := ⟨_, rfl⟩
      rw [hL] at ho5 HLB hLl
      rw [hL]
      have h3 := h2.trans hx3
      have hbv3 := hbv2.ext hx3
      have hB3 := hB2.ext hx3
      have hg3 := hg.ext hx3
      have ho5 := own_base ho5 h2.size
      have HO5 : Hid (∀ w', Ext w3 w' → w'.ownsRow W0.heap.size 3 1 (.slice A5 L.length k5) L.length (icells L)) := fun w' hw => own_below ho5 hw
      have KA2 := hid (KA.out n g L w3 h3 hL hg3)
      have HL : Hid (someW (bit n) h.ws.length = L) := by unfold Hid; rw [HN.out, hL]
      obtain ⟨C, hC⟩ : ∃ C, covH h L = C := ⟨_, rfl⟩
      rw [hC] at KA2
      have HC := hid hC
      clear hL hC hg hg3 hx3 hbv2 hB2 h2 ho5
      obtain ⟨c0, c1, c2⟩ := FH.out w3 h3
      cases O with
      | none =>
        obtain rfl : f = false := HFS.out
        obtain rfl : _ = Value.slice none 0 0 := hbv3
        go_wp2_with fail
        refine KA2.out.mono ?_
        rintro e w4 ⟨rfl, hx4⟩
        clear KA2 c0 c1 c2
        have h4 := h3.trans hx4
        have hB4 := hB3.ext hx4
        obtain ⟨c0, c1, c2⟩ := FH.out w4 h4
        cases C with
        | false =>
          have hsk := dbt_skip (h := h) (n := n) (.inl (by rw [HL.out]; exact HC.out))
          have HS2 : Hid (bstF h (n + 1) = none) := by unfold Hid; rw [hsk.1, HS.out]
          have hB2 : Brow w4 B (rl N (dbtF h (n + 1))) := by rw [show dbtF h (n + 1) = dbtF h n from funext hsk.2]; exact hB4
          clear hsk hB4 hB3
          go_wp2
          go_roundw
          case rel => exact ⟨n + 1, B, none, false, by omega, by go_num, rfl, rfl, rfl, rfl, HS2, hBge, hB2, h4⟩
          case measure => simp [intOf]; omega
        | true =>
          clear hB3 hB4
          go_wp2_with fail
          refine (KN.out w4 h4).mono ?_
          rintro e w5 ⟨B5, rfl, hBg5, hI5, hx5⟩
          have h5 := h4.trans hx5
          have hBge : W0.heap.size ≤ B5 := by have := h4.size; omega
          have hx25 : Ext w3 w5 := hx4.trans hx5
          clear c0 c1 c2
          obtain ⟨V, hVV⟩ : ∃ V : World, V = w5 := ⟨_, rfl⟩
          subst hVV
          have hBz : Brow V B5 (rl N fun x : Nat => false || memI (x : Int) (L.take 0)) := by
            rw [show (fun x : Nat => false || memI (x : Int) (L.take 0)) = fun x : Nat => false from funext fun x => by rw [take_zero_mem, Bool.or_false]]
            exact hI5
          have HBV := hid hI5
          go_wp2
          go_loopw [10] (fun i wr => ∃ k : Nat, k ≤ L.length ∧ i = .int .i64 (k : Int) ∧ Brow wr B5 (rl N fun x : Nat => false || memI (x : Int) (L.take k)) ∧ Ext W0 wr ∧ Bel B5 V wr) (fun i _ => L.length - (intOf i).toNat)
          case atStart => exact ⟨0, Nat.zero_le _, rfl, hBz, h5, Bel.refl _ _⟩
          case round =>
            obtain ⟨k, hk, rfl, hI, hx, hbl⟩ := hrel
            have o5 := own_bool (HO5.out _ hx25) HBV.out hbl
            by_cases hlk : k < L.length
            · have hlk' : (k : Int) < (L.length : Int) := by omega
              obtain ⟨y, hyk⟩ := get_of_lt L k hlk
              obtain ⟨j, hj, rfl⟩ := HLB.out y (List.mem_of_getElem? hyk)
              have hi5 : Ints wr A5 L := Rd.of_own o5
              obtain ⟨b1, o1, rfl, g0⟩ := hi5.at_ hyk
              have hj' : (j : Int) < (N : Int) := by omega
              have hcell := hI.at_ (rl_get _ hj)
              have hfz := hI.frozen j
              have hI2 := hI.set j true
              rw [← rl_upd, upd_mem _ hyk] at hI2
              have HI2 := hid hI2
              have hbl2 := hbl.setCell j (.bool true)
              clear hI2 hI o5 hyk
              go_wp2
              go_roundw
              case rel => exact ⟨k + 1, by omega, by go_num, HI2.out, hx.setCell (p := ⟨B5, j, none⟩) hBge _, hbl2⟩
              case measure => simp [intOf]; omega
            · have hlk' : ¬ (k : Int) < (L.length : Int) := by omega
              have hI2 : Brow wr B5 (rl N fun x : Nat => false || memI (x : Int) L) := by
                rw [show (fun x : Nat => false || memI (x : Int) L) = fun x : Nat => false || memI (x : Int) (L.take k) from funext fun x => by rw [mem_take_full (by omega)]]
                exact hI
              clear hI hBz
              have HBN := dbt_new (h := h) (n := n) (by rw [HL.out]; exact HC.out) (.inl HS.out)
              rw [HL.out] at HBN
              have HS2 : Hid (bstF h (n + 1) = some L) := HBN.1
              have HB2 : Hid (Brow wr B5 (rl N (dbtF h (n + 1)))) := by
                unfold Hid
                rw [show dbtF h (n + 1) = fun x : Nat => false || memI (x : Int) L from funext fun x => by rw [HBN.2, Bool.false_or]]; exact hI2
              have HOL := hid o5
              clear HBN hI2 o5
              go_wp2
              go_roundw
              case rel => exact ⟨n + 1, B5, some L, true, by omega, by go_num, rfl, rfl, rfl, ⟨A5, k5, rfl, HOL.out⟩, HS2, hBge, HB2.out, hx⟩
              case measure => simp [intOf]; omega
      | some b =>
        obtain rfl : f = true := HFS.out
        obtain ⟨A6, k6, rfl, ho6⟩ := hbv3
        have HBL : Hid (∀ b', b = b' → b'.length ≤ 14) := fun b' e => by
          subst e
          obtain ⟨m, -, hm⟩ := ((bestTo_spec (covH h) h.ws.length n).1 b HS.out).1
          rw [hm, HN.out]
          have := someW_len (bit m) N
          omega
        by_cases hgl : b.length < L.length
        · have hgl' : (L.length : Int) > (b.length : Int) := by omega
          have hsk := dbt_skip (h := h) (n := n) (.inr ⟨b, HS.out, by rw [HL.out]; exact hgl⟩)
          have HS2 : Hid (bstF h (n + 1) = some b) := by unfold Hid; rw [hsk.1, HS.out]
          have hB2 : Brow w3 B (rl N (dbtF h (n + 1))) := by rw [show dbtF h (n + 1) = dbtF h n from funext hsk.2]; exact hB3
          clear hsk hB3 KA2
          go_wp2
          go_roundw
          case rel => exact ⟨n + 1, B, some b, true, by omega, by go_num, rfl, rfl, rfl, ⟨A6, k6, rfl, ho6⟩, HS2, hBge, hB2, h3⟩
          case measure => simp [intOf]; omega
        · have hgl' : ¬ (L.length : Int) > (b.length : Int) := by omega
          go_wp2_with fail
          refine KA2.out.mono ?_
          rintro e w4 ⟨rfl, hx4⟩
          clear KA2 c0 c1 c2
          have h4 := h3.trans hx4
          have hB4 := hB3.ext hx4
          have ho64 := own_below ho6 hx4
          obtain ⟨c0, c1, c2⟩ := FH.out w4 h4
          clear hB3 ho6
          cases C with
          | false =>
            have hsk := dbt_skip (h := h) (n := n) (.inl (by rw [HL.out]; exact HC.out))
            have HS2 : Hid (bstF h (n + 1) = some b) := by unfold Hid; rw [hsk.1, HS.out]
            have hB2 : Brow w4 B (rl N (dbtF h (n + 1))) := by rw [show dbtF h (n + 1) = dbtF h n from funext hsk.2]; exact hB4
            clear hsk hB4
            go_wp2
            go_roundw
            case rel => exact ⟨n + 1, B, some b, true, by omega, by go_num, rfl, rfl, rfl, ⟨A6, k6, rfl, ho64⟩, HS2, hBge, hB2, h4⟩
            case measure => simp [intOf]; omega
          | true =>
            by_cases hls : L.length < b.length
            · have hls' : (L.length : Int) < (b.length : Int) := by omega
              clear hB4
              go_wp2_with fail
              refine (KN.out w4 h4).mono ?_
              rintro e w5 ⟨B5, rfl, hBg5, hI5, hx5⟩
              have h5 := h4.trans hx5
              have hBge : W0.heap.size ≤ B5 := by have := h4.size; omega
              have hx25 : Ext w3 w5 := hx4.trans hx5
              have ho65 := own_below ho64 hx5
              clear c0 c1 c2 ho64
              have HB14 : Hid (b.length ≤ 14) := HBL.out b rfl
              obtain ⟨V, hVV⟩ : ∃ V : World, V = w5 := ⟨_, rfl⟩
              subst hVV
              have hBz : Brow V B5 (rl N fun x : Nat => false || memI (x : Int) (L.take 0)) := by
                rw [show (fun x : Nat => false || memI (x : Int) (L.take 0)) = fun x : Nat => false from funext fun x => by rw [take_zero_mem, Bool.or_false]]
                exact hI5
              have HBV := hid hI5
              go_wp2
              go_loopw [10] (fun i wr => ∃ k : Nat, k ≤ L.length ∧ i = .int .i64 (k : Int) ∧ Brow wr B5 (rl N fun x : Nat => false || memI (x : Int) (L.take k)) ∧ Ext W0 wr ∧ Bel B5 V wr) (fun i _ => L.length - (intOf i).toNat)
              case atStart => exact ⟨0, Nat.zero_le _, rfl, hBz, h5, Bel.refl _ _⟩
              case round =>
                obtain ⟨k, hk, rfl, hI, hx, hbl⟩ := hrel
                have o5 := own_bool (HO5.out _ hx25) HBV.out hbl
                by_cases hlk : k < L.length
                · have hlk' : (k : Int) < (L.length : Int) := by omega
                  obtain ⟨y, hyk⟩ := get_of_lt L k hlk
                  obtain ⟨j, hj, rfl⟩ := HLB.out y (List.mem_of_getElem? hyk)
                  have hi5 : Ints wr A5 L := Rd.of_own o5
                  obtain ⟨b1, o1, rfl, g0⟩ := hi5.at_ hyk
                  have hj' : (j : Int) < (N : Int) := by omega
                  have hcell := hI.at_ (rl_get _ hj)
                  have hfz := hI.frozen j
                  have hI2 := hI.set j true
                  rw [← rl_upd, upd_mem _ hyk] at hI2
                  have HI2 := hid hI2
                  have hbl2 := hbl.setCell j (.bool true)
                  clear hI2 hI o5 hyk
                  go_wp2
                  go_roundw
                  case rel => exact ⟨k + 1, by omega, by go_num, HI2.out, hx.setCell (p := ⟨B5, j, none⟩) hBge _, hbl2⟩
                  case measure => simp [intOf]; omega
                · have hlk' : ¬ (k : Int) < (L.length : Int) := by omega
                  have hI2 : Brow wr B5 (rl N fun x : Nat => false || memI (x : Int) L) := by
                    rw [show (fun x : Nat => false || memI (x : Int) L) = fun x : Nat => false || memI (x : Int) (L.take k) from funext fun x => by rw [mem_take_full (by omega)]]
                    exact hI
                  clear hI hBz
                  have HBN := dbt_new (h := h) (n := n) (by rw [HL.out]; exact HC.out) (.inr ⟨b, HS.out, by rw [HL.out]; exact hls⟩)
                  rw [HL.out] at HBN
                  have HS2 : Hid (bstF h (n + 1) = some L) := HBN.1
                  have HB2 : Hid (Brow wr B5 (rl N (dbtF h (n + 1)))) := by
                    unfold Hid
                    rw [show dbtF h (n + 1) = fun x : Nat => false || memI (x : Int) L from funext fun x => by rw [HBN.2, Bool.false_or]]; exact hI2
                  have o6 := own_bool ho65 HBV.out hbl
                  have K := refbefore_any A5 A6 k5 k6 L b wr (Rd.of_own o5) (Rd.of_own o6) (by omega) (by have := HB14.out; omega)
                  rw [show fewerL L b = true from fewer_iff.2 (.inl hls)] at K
                  have K := hid K
                  have HOL := hid o5
                  clear HBN hI2 o5 o6
                  go_wp2_with fail
                  refine K.out.mono ?_
                  rintro e w9 ⟨rfl, hx9⟩
                  clear K
                  go_wp2
                  go_roundw
                  case rel => exact ⟨n + 1, B5, some L, true, by omega, by go_num, rfl, rfl, rfl, ⟨A5, k5, rfl, own_below HOL.out hx9⟩, HS2, hBge, HB2.out.ext hx9, hx.trans hx9⟩
                  case measure => simp [intOf]; omega
            · have hls' : ¬ (L.length : Int) < (b.length : Int) := by omega
              have hx25 : Ext w3 w4 := hx4
              clear c0 c1 c2
              obtain ⟨V, hVV⟩ : ∃ V : World, V = w4 := ⟨_, rfl⟩
              subst hVV
              have hBz : Brow V B (rl N fun x : Nat => dbtF h n x || memI (x : Int) (L.take 0)) := by
                rw [show (fun x : Nat => dbtF h n x || memI (x : Int) (L.take 0)) = fun x : Nat => dbtF h n x from funext fun x => by rw [take_zero_mem, Bool.or_false]]
                exact hB4
              have HBV := hid hB4
              go_wp2
              go_loopw [10] (fun i wr => ∃ k : Nat, k ≤ L.length ∧ i = .int .i64 (k : Int) ∧ Brow wr B (rl N fun x : Nat => dbtF h n x || memI (x : Int) (L.take k)) ∧ Ext W0 wr ∧ Bel B V wr) (fun i _ => L.length - (intOf i).toNat)
              case atStart => exact ⟨0, Nat.zero_le _, rfl, hBz, h4, Bel.refl _ _⟩
              case round =>
                obtain ⟨k, hk, rfl, hI, hx, hbl⟩ := hrel
                have o5 := own_bool (HO5.out _ hx25) HBV.out hbl
                by_cases hlk : k < L.length
                · have hlk' : (k : Int) < (L.length : Int) := by omega
                  obtain ⟨y, hyk⟩ := get_of_lt L k hlk
                  obtain ⟨j, hj, rfl⟩ := HLB.out y (List.mem_of_getElem? hyk)
                  have hi5 : Ints wr A5 L := Rd.of_own o5
                  obtain ⟨b1, o1, rfl, g0⟩ := hi5.at_ hyk
                  have hj' : (j : Int) < (N : Int) := by omega
                  have hcell := hI.at_ (rl_get _ hj)
                  have hfz := hI.frozen j
                  have hI2 := hI.set j true
                  rw [← rl_upd, upd_mem _ hyk] at hI2
                  have HI2 := hid hI2
                  have hbl2 := hbl.setCell j (.bool true)
                  clear hI2 hI o5 hyk
                  go_wp2
                  go_roundw
                  case rel => exact ⟨k + 1, by omega, by go_num, HI2.out, hx.setCell (p := ⟨B, j, none⟩) hBge _, hbl2⟩
                  case measure => simp [intOf]; omega
                · have hlk' : ¬ (k : Int) < (L.length : Int) := by omega
                  have hI2 : Brow wr B (rl N fun x : Nat => dbtF h n x || memI (x : Int) L) := by
                    rw [show (fun x : Nat => dbtF h n x || memI (x : Int) L) = fun x : Nat => dbtF h n x || memI (x : Int) (L.take k) from funext fun x => by rw [mem_take_full (by omega)]]
                    exact hI
                  clear hI hBz
                  have hle : L.length = b.length := by omega
                  have HBN := dbt_same (h := h) (n := n) (by rw [HL.out]; exact HC.out) HS.out (by rw [HL.out]; exact hle)
                  rw [HL.out] at HBN
                  have HB2 : Hid (Brow wr B (rl N (dbtF h (n + 1)))) := by
                    unfold Hid
                    rw [show dbtF h (n + 1) = fun x : Nat => dbtF h n x || memI (x : Int) L from funext HBN.2]; exact hI2
                  have HBN1 := hid HBN.1
                  have o6 := own_bool ho64 HBV.out hbl
                  have K := refbefore_any A5 A6 k5 k6 L b wr (Rd.of_own o5) (Rd.of_own o6) (by omega) (by omega)
                  obtain ⟨F, hF⟩ : ∃ F, fewerL L b = F := ⟨_, rfl⟩
                  rw [hF] at K HBN1
                  have K := hid K
                  have HOL := hid o5
                  have HO6 := hid o6
                  clear HBN hI2 o5 o6 hle hF
                  go_wp2_with fail
                  refine K.out.mono ?_
                  rintro e w9 ⟨rfl, hx9⟩
                  clear K
                  cases F with
                  | true =>
                    go_wp2
                    go_roundw
                    case rel => exact ⟨n + 1, B, some L, true, by omega, by go_num, rfl, rfl, rfl, ⟨A5, k5, rfl, own_below HOL.out hx9⟩, HBN1, hBge, HB2.out.ext hx9, hx.trans hx9⟩
                    case measure => simp [intOf]; omega
                  | false =>
                    go_wp2
                    go_roundw
                    case rel => exact ⟨n + 1, B, some b, true, by omega, by go_num, rfl, rfl, rfl, ⟨A6, k6, rfl, own_below HO6.out hx9⟩, HBN1, hBge, HB2.out.ext hx9, hx.trans hx9⟩
                    case measure => simp [intOf]; omega
    · have hlt' : ¬ (n : Int) < (2 : Int) ^ N := by rw [pow_cast]; omega
      obtain rfl : n = 2 ^ N := by omega
      have hbe := bst_end HK.out
      rw [HN.out, HS.out, HBF.out] at hbe
      subst hbe
      obtain rfl : f = true := HFS.out
      obtain ⟨A6, k6, rfl, ho6⟩ := hbv
      obtain ⟨D, hD⟩ : ∃ D, dbtF h (2 ^ N) = D := ⟨_, rfl⟩
      rw [hD] at hB
      have HD : Hid (∀ i, i < N → D i = !trustB h i) := fun i hi => by rw [← hD, ← HN.out]; exact dbt_end HK.out (by rw [HN.out]; exact hi)
      obtain ⟨V, hVV⟩ : ∃ V : World, V = wr := ⟨_, rfl⟩
      subst hVV
      have HBV := hid hB
      have HO6 := hid ho6
      have hB0 : Brow V B (rl N fun x : Nat => if x < 0 then !D x else D x) := by
        rw [show (fun x : Nat => if x < 0 then !D x else D x) = D from funext fun x => by rw [if_neg (by omega)]]; exact hB
      clear hD hB ho6 HS
      go_wp2
      clear c0 c1 c2
      go_loopw [11] (fun i wr => ∃ k : Nat, k ≤ N ∧ i = .int .i64 (k : Int) ∧ Brow wr B (rl N fun x : Nat => if x < k then !D x else D x) ∧ Ext W0 wr ∧ Bel B V wr) (fun i _ => N - (intOf i).toNat)
      case atStart => exact ⟨0, Nat.zero_le _, rfl, hB0, hx, Bel.refl _ _⟩
      case round =>
        obtain ⟨k, hk, rfl, hI, hxk, hbl⟩ := hrel
        by_cases hlk : k < N
        · have hlk' : (k : Int) < (N : Int) := by omega
          have hcell := hI.at_ (rl_get _ hlk)
          rw [if_neg (by omega)] at hcell
          have hfz := hI.frozen k
          have hI2 := hI.set k (!D k)
          rw [← rl_upd] at hI2
          have hfn : upd1 (fun x : Nat => if x < k then !D x else D x) k (!D k) = fun x : Nat => if x < k + 1 then !D x else D x := by
            funext x; unfold upd1
            by_cases e : x = k
            · subst e; rw [if_pos rfl, if_pos (by omega)]
            · rw [if_neg e]
              show (if x < k then !D x else D x) = if x < k + 1 then !D x else D x
              by_cases e2 : x < k
              · rw [if_pos e2, if_pos (by omega)]
              · rw [if_neg e2, if_neg (by omega)]
          rw [hfn] at hI2
          have HI2 := hid hI2
          have hbl2 := hbl.setCell k (.bool (!D k))
          clear hI2 hI hfn
          obtain ⟨q, hq⟩ : ∃ q, D k = q := ⟨_, rfl⟩
          rw [hq] at hcell HI2 hbl2
          clear hq
          go_wp2
          go_roundw
          case rel => exact ⟨k + 1, by omega, by go_num, HI2.out, hxk.setCell (p := ⟨B, k, none⟩) hBge _, hbl2⟩
          case measure => simp [intOf]; omega
        · have hlk' : ¬ (k : Int) < (N : Int) := by omega
          have hI2 : Brow wr B (rl N (trustB h)) := by
            have e : rl N (fun x : Nat => if x < k then !D x else D x) = rl N (trustB h) := List.map_congr_left fun x hx => by
              have := List.mem_range.1 hx
              rw [if_pos (by omega), HD.out x this, Bool.not_not]
            rw [e] at hI; exact hI
          have o6 := own_bool HO6.out HBV.out hbl
          have K := hid (reflist_any (some ⟨B, 0, none⟩) N N (trustB h) wr hI2.bools (by omega))
          have HT : Hid (someW (trustB h) N = trustH h) := by unfold Hid trustH; rw [HN.out]
          rw [HT.out] at K
          clear hI hI2 hB0 HD
          go_wp2_with fail
          refine K.out.mono ?_
          rintro e w9 ⟨A9, k9, rfl, ho9, hx9⟩
          clear K
          have o69 := own_below o6 hx9
          have hxx := hx0.trans (hxk.trans hx9)
          have HO9 := hid ho9
          have HO69 := hid o69
          clear ho9 o69 o6
          go_wp2
          go_ret2
          exact ⟨A6, k6, A9, k9, rfl, hxx, Rd.of_own HO69.out, Rd.of_own HO9.out⟩
end Go.Proofs.Ytjnobdcbbboeeaa
