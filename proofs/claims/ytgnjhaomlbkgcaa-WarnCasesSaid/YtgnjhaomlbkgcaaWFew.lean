/- The walks of fewest and of what it calls. Printed by my gen_few.py. -/
import Derived.Test.YtgnjhaomlbkgcaaWTruth
import Derived.Test.YtgnjhaomlbkgcaaKeep
namespace Go.Proofs.Ytgnjhaomlbkgcaa
open Go Go.RowKit Go.Shelf
set_option linter.unusedVariables false
set_option linter.unusedSimpArgs false

def tryL (f : Nat → Option (List Int)) : Nat → Nat → Option (List Int)
  | _, 0 => none
  | k, c + 1 => match f k with
    | some r => some r
    | none => tryL f (k + 1) c
/-- The first list that goes on from l with so many numbers more, from k on, below wi, for which p holds. -/
def moreL (p : List Int → Bool) (wi : Nat) : Nat → List Int → Nat → Option (List Int)
  | 0, l, _ => if p l then some l else none
  | m + 1, l, k => tryL (fun n => moreL p wi m (l ++ [(n : Int)]) (n + 1)) k (wi - k)
def fewL (p : List Int → Bool) (wi : Nat) : Option (List Int) := tryL (fun many => moreL p wi many [] 0) 0 (wi + 1)

def IntsR (W : World) (v : Value) (l : List Int) : Prop := ∃ A c, v = .slice A l.length c ∧ Ints W A l
/-- Not the box O. -/
def NotIn (O : Nat) (A : Option Addr) : Prop := ∀ a, A = some a → a.block ≠ O
theorem Ints.bel {O : Nat} {w w' : World} {A : Option Addr} {l : List Int} (h : Ints w A l) (hb : Bel O w w') (hn : NotIn O A) : Ints w' A l := by
  rcases h with h | ⟨b, off, rfl, hc⟩
  · exact .inl h
  · exact .inr ⟨b, off, rfl, fun j u hu => hb.cell (hc j u hu) (show b ≠ O from hn ⟨b, off, none⟩ rfl)⟩
theorem Kc.bel {O : Nat} {a w w' : World} (h : Kc a w) (hO : a.heap.size ≤ O) (hb : Bel O w w') : Kc a w' := h.cel hO hb.cel

theorem own_some {w : World} {base e size n c : Nat} {A : Option Addr} {xs : List Value} (h : w.ownsRow base e size (.slice A (n + 1) c) (n + 1) xs) : ∃ g, A = some ⟨g, 0, none⟩ := by
  rcases h.2 with ⟨h, h2⟩ | ⟨g, cap, cur, h, _⟩
  · omega
  · cases h; exact ⟨g, rfl⟩
theorem exec_append {P : Program} (w : World) {o : Oper} (ρ : Operand → Value) (s x : Operand) (t : TypeId) (ho : o.op = .call { callee := .builtin .append, args := #[s, x], argTypes := #[t, t] }) (v vx : Value) (hs : ρ s = v) (hx : ρ x = vx) (v' : Value) (w' : World)
    (hrun : (Builtin.append_ #[t, t] o.type #[v, vx]).run P w = .ok v' w') : (execOp ρ o).run P w = .ok (.value v') w' := by
  unfold execOp
  simp only [ho, resolve, invoke, builtin, Sem.run_bind, Sem.run_pure, Result.andThen_ok, List.map_toArray, List.map_cons, List.map_nil, hs, hx, hrun]

set_option maxRecDepth 100000 in
set_option maxHeartbeats 4000000 in
theorem more_any (p : List Int → Bool) (wi O Db Cb Mb : Nat) (fv : Value) (w0 : World) (hwi : wi ≤ 6) (hfv : FnP Try.prog fv w0 IntsR (fun l => l.length ≤ 6) p) (hO : w0.heap.size ≤ O) (hDO : Db ≠ O) (hCO : Cb ≠ O) (hMO : Mb ≠ O) : ∀ (m : Nat) (l : List Int) (k : Nat) (A : Option Addr) (len ca : Nat) (W : World),
    l.length = len → l.length + m ≤ 6 → k ≤ wi → Kc w0 W → Ints W A l → NotIn O A → (∃ ov, W.heap[O]? = some (.cells #[ov] 27 (0, 0))) →
    W.cell? ⟨Mb, 0, none⟩ = some (.func (.func 142) #[] #[.pointer (some ⟨O, 0, none⟩), .pointer (some ⟨Db, 0, none⟩), .pointer (some ⟨Cb, 0, none⟩), .pointer (some ⟨Mb, 0, none⟩)]) → W.cell? ⟨Db, 0, none⟩ = some fv → W.cell? ⟨Cb, 2, none⟩ = some (.int .i64 (wi : Int)) →
    Calls Try.prog 142 (#[.slice A len ca, .int .i64 (k : Int), .int .i64 (m : Int)] ++ #[.pointer (some ⟨O, 0, none⟩), .pointer (some ⟨Db, 0, none⟩), .pointer (some ⟨Cb, 0, none⟩), .pointer (some ⟨Mb, 0, none⟩)]) W fun e W' => e = .returned (.bool (moreL p wi m l k).isSome) ∧ Bel O W W' ∧
      ∃ ov, W'.heap[O]? = some (.cells #[ov] 27 (0, 0)) ∧ ∀ r, moreL p wi m l k = some r → ∃ A' c', ov = .slice A' r.length c' ∧ Ints W' A' r ∧ NotIn O A' := by
  intro m
  have HFV := hid hfv
  have hff : ∃ g fst lb, fv = .func (.func g) fst lb ∧ (∀ args W, (callFunc g args).run Try.prog W = .ok (.enter g args) W) := by obtain ⟨g, fst, lb, h, h2, _⟩ := hfv; exact ⟨g, fst, lb, h, h2⟩
  induction m with
  | zero =>
    intro l k A len ca W hlen hl6 hk hkc hA hnA ⟨ov, hov⟩ hM hD hC
    subst hlen
    obtain ⟨g, fst, lb, rfl, eg, hcall⟩ := hfv
    have HCALL := hid hcall
    clear hcall
    generalize hR : moreL p wi 0 l k = R
    have HR : Hid ((if p l then some l else none) = R) := hR
    clear hR
    have ho1 : W.cell? ⟨O, 0, none⟩ = some ov := by rw [cell_of_row W O 0 _ _ _ hov]; rfl
    have ho2 : W.frozen? ⟨O, 0, none⟩ = false := by simp [World.frozen?, hov]
    have hset : (W.setCell ⟨O, 0, none⟩ (.slice A l.length ca)).heap[O]? = some (.cells #[.slice A l.length ca] 27 (0, 0)) := by
      simp [World.setCell, Array.getElem?_modify, hov]
    have hbs : Bel O W (W.setCell ⟨O, 0, none⟩ (.slice A l.length ca)) := (Bel.refl O W).setCell 0 _
    have hDs := hbs.cell hD hDO
    have hcl := HCALL.out l (.slice A l.length ca) (W.setCell ⟨O, 0, none⟩ (.slice A l.length ca)) (by omega) (hkc.bel hO hbs) ⟨A, ca, rfl, hA.bel hbs hnA⟩
    have HCL := hid hcl
    clear hcl
    go_enter Try.func142, Try.ntmps142
    go_wp2_with fail
    refine HCL.out.mono ?_
    rintro e W2 ⟨rfl, hb2⟩
    have hfin := (Below.block hb2 O (Array.getElem?_eq_some_iff.1 hset).1).trans hset
    go_wp2
    go_ret
    refine ⟨ret_of (bool_of ?_), hbs.trans (Ext.bel hb2), _, hfin, ?_⟩
    · rw [← HR.out]; cases p l <;> rfl
    · intro r hr
      rw [← HR.out] at hr
      split at hr
      · cases hr
        exact ⟨A, ca, rfl, (hA.bel hbs hnA).ext hb2, hnA⟩
      · cases hr
  | succ m ih =>
    intro l k A len ca W hlen hl6 hk hkc hA hnA hov hM hD hC
    subst hlen
    have HIH := hid ih
    clear ih
    generalize hR : moreL p wi (m + 1) l k = R
    have HR : Hid (tryL (fun n => moreL p wi m (l ++ [(n : Int)]) (n + 1)) k (wi - k) = R) := hR
    clear hR
    have hne : ¬ ((m : Int) + 1 = 0) := by omega
    rw [show (((m + 1 : Nat) : Int)) = (m : Int) + 1 by omega]
    go_enter Try.func142, Try.ntmps142
    go_wp2
    go_loopw [11] (fun i wr => ∃ n : Nat, k ≤ n ∧ n ≤ wi ∧ i = .int .i64 (n : Int) ∧ Hid (tryL (fun n => moreL p wi m (l ++ [(n : Int)]) (n + 1)) n (wi - n) = R) ∧ Bel O W wr ∧ ∃ ov, wr.heap[O]? = some (.cells #[ov] 27 (0, 0))) (fun i _ => wi - (intOf i).toNat)
    case atStart => exact ⟨k, Nat.le_refl _, hk, rfl, HR, Bel.refl _ _, hov⟩
    case round =>
      obtain ⟨n, hkn, hnw, rfl, HR, hbl, hov⟩ := hrel
      have hCr := hbl.cell hC hCO
      have hMr := hbl.cell hM hMO
      have hDr := hbl.cell hD hDO
      have hAr := hA.bel hbl hnA
      by_cases hlt : n < wi
      · have hlt' : (n : Int) < (wi : Int) := by omega
        go_wp2
        have FX : Hid (∀ w', Below wr.heap.size wr w' → w'.cell? ⟨Mb, 0, none⟩ = some (.func (.func 142) #[] #[.pointer (some ⟨O, 0, none⟩), .pointer (some ⟨Db, 0, none⟩), .pointer (some ⟨Cb, 0, none⟩), .pointer (some ⟨Mb, 0, none⟩)]) ∧ Ints w' A l) := fun w' h => ⟨Ext.cell h hMr, hAr.ext h⟩
        refine wp_region_opens_tail (Laid wr.heap.size 3 l.length (l.map (.int .i64)) (.int .i64 (n : Int))) (fun w' => wr.heap.size ≤ w'.heap.size ∧ Below wr.heap.size wr w') (fun
          | 2 => some (fun v W => ∃ A2 c2, v = .slice A2 l.length c2 ∧ W.ownsRow wr.heap.size 3 1 (.slice A2 l.length c2) l.length (l.map (.int .i64)))
          | 4 => some (fun v W => ∃ b, v = .slice (some ⟨b, 0, none⟩) 1 1 ∧ Rd0 W b [.int .i64 (n : Int)])
          | 5 => some (fun v W => ∃ g c5, v = .slice (some ⟨g, 0, none⟩) (l.length + 1) c5 ∧ wr.heap.size ≤ g ∧ Rd0 W g (l.map (.int .i64) ++ [.int .i64 (n : Int)]))
          | _ => none) 10 (by kernel_rfl) (by kernel_rfl) (fun _ _ h k => ⟨Nat.le_trans h.1 k.1.size, h.2.trans k.1⟩) ?hT ⟨Nat.le_refl _, (Below.refl _ wr).drew⟩ ?_
        case hT =>
          intro i R hR
          match i, hR with
          | 2, hR => cases hR; exact fun _ _ _ ⟨A2, c2, e1, e2⟩ k => ⟨A2, c2, e1, k.2.1 _ e2⟩
          | 4, hR => cases hR; exact fun _ _ _ ⟨b, e1, e2⟩ k => ⟨b, e1, k.2.2.2 _ e2⟩
          | 5, hR => cases hR; exact fun _ _ _ ⟨g, c5, e1, e2, e3⟩ k => ⟨g, c5, e1, e2, k.2.2.1 _ e3⟩
        refine wpM_val ?u0 rfl rfl Laid.refl (fun w' hD => ?h0) ?n0
        case h0 =>
          obtain ⟨dm, dl⟩ := FX.out w' hD.1.2
          go_simp; rfl
        simp only [Act.put, List.setIfInBounds_toArray, List.set_cons_succ, List.set_cons_zero, Nat.reduceAdd]
        refine wpM_val ?u1 rfl rfl Laid.refl (fun w' hD => ?h1) ?n1
        case h1 =>
          obtain ⟨dm, dl⟩ := FX.out w' hD.1.2
          go_simp; rfl
        simp only [Act.put, List.setIfInBounds_toArray, List.set_cons_succ, List.set_cons_zero, Nat.reduceAdd]
        refine wpM_op _ rfl rfl (opens_call ?f2 ?g2 (fun w' hD => ?h2) (fun w' hD => ?c2)) (fun v2 hv2 => ?n2)
        case h2 => go_simp; constructor <;> rfl
        case c2 =>
          obtain ⟨dm, dl⟩ := FX.out w' hD.1.2
          have hsz2 := hD.1.1
          refine ((clone_int A ca l w' dl (by omega))).mono ?_
          rintro e w2 ⟨A2, c2, rfl, ho, _, hb⟩
          exact ⟨_, rfl, Laid.of_ext hb hsz2, A2, c2, rfl, own_base ho hsz2⟩
        obtain ⟨_, _, _, A2, c2, rfl, _⟩ := hv2
        simp only [Act.put, List.setIfInBounds_toArray, List.set_cons_succ, List.set_cons_zero, Nat.reduceAdd]
        refine wpM_val ?u3 rfl rfl Laid.refl (fun w' hD => ?h3) ?n3
        case h3 =>
          obtain ⟨dm, dl⟩ := FX.out w' hD.1.2
          go_simp; rfl
        simp only [Act.put, List.setIfInBounds_toArray, List.set_cons_succ, List.set_cons_zero, Nat.reduceAdd]
        refine wpM_op _ rfl rfl (opens_val (fun w' hD => ?h4)) (fun v4 hv4 => ?n4)
        case h4 =>
          have hsz2 := hD.1.1
          refine ⟨.slice (some ⟨w'.heap.size, 0, none⟩) 1 1, w'.alloc (.cells #[.int .i64 (n : Int)] 3), ?_, Laid.of_ext (Ext.alloc (Ext.refl _) _) hsz2, _, rfl, ?_⟩
          · go_simp
          · intro j u hu
            match j with
            | 0 => cases hu; simp [go_sem]
            | j + 1 => simp at hu
        obtain ⟨_, _, _, b4, rfl, _⟩ := hv4
        simp only [Act.put, List.setIfInBounds_toArray, List.set_cons_succ, List.set_cons_zero, Nat.reduceAdd]
        refine wpM_op _ rfl rfl (opens_val (fun w' hD => ?h5)) (fun v5 hv5 => ?n5)
        case h5 =>
          have hsz2 := hD.1.1
          obtain ⟨_, A3, c3, e3, ho⟩ := hD.get 2 (by first | kernel_rfl | simp [Region.binds])
          cases e3
          obtain ⟨_, b3, e4, hb4⟩ := hD.get 4 (by first | kernel_rfl | simp [Region.binds])
          cases e4
          obtain ⟨A5, c5, w5, hrun, ho5, hk5⟩ := run_append_keep (P := Try.prog) w' 27 27 3 1 8 elem_int wr.heap.size _ l.length _ ho ⟨b4, 0, none⟩ 1 1 [.int .i64 (n : Int)] rfl (fun j u hu => by rw [Addr.add_lit, Nat.zero_add]; exact hb4 j u hu) (by simp [Value.oneCell']) (by omega) hsz2 (by omega)
          obtain ⟨g5, rfl⟩ : ∃ g5, A5 = some ⟨g5, 0, none⟩ := own_some ho5
          refine ⟨.slice (some ⟨g5, 0, none⟩) (l.length + 1) c5, w5, exec_append w' _ (.tmp 27) (.tmp 29) 27 ?_ _ _ ?_ ?_ _ _ hrun, ?_, g5, c5, rfl, (ho5.lt g5 rfl).1, rd0_own ho5⟩
          · rfl
          · rfl
          · rfl
          · rcases hk5 with h | ⟨g, cap, e6, e7, rfl, _, hg⟩
            · exact Laid.of_ext h hsz2
            · cases e6; cases e7
              exact Laid.of_grown (by simp) ho ho5 hg
        obtain ⟨_, _, _, g5, c5, rfl, hg5, _⟩ := hv5
        simp only [Act.put, List.setIfInBounds_toArray, List.set_cons_succ, List.set_cons_zero, Nat.reduceAdd]
        refine wpM_val ?u6 rfl rfl Laid.refl (fun w' hD => ?h6) ?n6
        case h6 =>
          obtain ⟨dm, dl⟩ := FX.out w' hD.1.2
          go_simp; rfl
        simp only [Act.put, List.setIfInBounds_toArray, List.set_cons_succ, List.set_cons_zero, Nat.reduceAdd]
        refine wpM_val ?u7 rfl rfl Laid.refl (fun w' hD => ?h7) ?n7
        case h7 =>
          obtain ⟨dm, dl⟩ := FX.out w' hD.1.2
          go_simp; rfl
        simp only [Act.put, List.setIfInBounds_toArray, List.set_cons_succ, List.set_cons_zero, Nat.reduceAdd]
        refine wpM_val ?u8 rfl rfl Laid.refl (fun w' hD => ?h8) ?n8
        case h8 =>
          obtain ⟨dm, dl⟩ := FX.out w' hD.1.2
          go_simp; rfl
        simp only [Act.put, List.setIfInBounds_toArray, List.set_cons_succ, List.set_cons_zero, Nat.reduceAdd]
        refine wpM_val ?u9 rfl rfl Laid.refl (fun w' hD => ?h9) ?n9
        case h9 =>
          obtain ⟨dm, dl⟩ := FX.out w' hD.1.2
          go_simp; rfl
        simp only [Act.put, List.setIfInBounds_toArray, List.set_cons_succ, List.set_cons_zero, Nat.reduceAdd]
        refine wpM_nil ?_
        intro w9 hw9 hF9
        obtain ⟨⟨_, _⟩, g6, c6, e6, hg6, hrd⟩ := hF9 5
        cases e6
        have hb9 : Bel O W w9 := hbl.trans (Ext.bel hw9.2)
        have hov9 : ∃ ov, w9.heap[O]? = some (.cells #[ov] 27 (0, 0)) := by
          obtain ⟨ov, ho⟩ := hov
          exact ⟨ov, (Below.block hw9.2 O (Array.getElem?_eq_some_iff.1 ho).1).trans ho⟩
        have hOlt : O < wr.heap.size := by obtain ⟨ov, ho⟩ := hov; exact (Array.getElem?_eq_some_iff.1 ho).1
        have hcall := HIH.out (l ++ [(n : Int)]) (n + 1) (some ⟨g5, 0, none⟩) (l.length + 1) c5 w9 (by simp) (by simp; omega) (by omega) (hkc.bel hO hb9) (by show Rd _ _ _; rw [List.map_append]; exact hrd.rd) (fun a e => by cases e; show g5 ≠ O; omega) hov9 (hb9.cell hM hMO) (hb9.cell hD hDO) (hb9.cell hC hCO)
        simp only [Int.natCast_add, Int.natCast_one] at hcall
        have HC := hid hcall
        clear hcall
        have HRN : Hid ((match moreL p wi m (l ++ [(n : Int)]) (n + 1) with | some r => some r | none => tryL (fun n => moreL p wi m (l ++ [(n : Int)]) (n + 1)) (n + 1) (wi - (n + 1))) = R) := by
          unfold Hid
          rw [← HR.out, show wi - n = (wi - (n + 1)) + 1 by omega]
          rfl
        clear HR
        try simp only [List.drop_succ_cons, List.drop_zero]
        go_wp2_with fail
        refine HC.out.mono ?_
        rintro e W4 ⟨rfl, hb4, hov4⟩
        cases hq : moreL p wi m (l ++ [(n : Int)]) (n + 1) with
        | some r =>
          have HQ : Hid (some r = R) := by unfold Hid; rw [← HRN.out, hq]
          rw [hq] at hov4
          clear hq HRN
          obtain ⟨ov4, ho4, hr4⟩ := hov4
          have HR4 := hid hr4
          clear hr4
          go_wp2
          go_ret
          refine ⟨ret_of (bool_of (by rw [← HQ.out]; rfl)), hb9.trans hb4, ov4, ho4, fun r' hr' => HR4.out r' (by rw [← hr', ← HQ.out])⟩
        | none =>
          have HQ : Hid (tryL (fun n => moreL p wi m (l ++ [(n : Int)]) (n + 1)) (n + 1) (wi - (n + 1)) = R) := by unfold Hid; rw [← HRN.out, hq]
          obtain ⟨ov4, ho4, _⟩ := hov4
          clear hq HRN
          go_wp2
          refine ⟨⟨_, _, _, _, _, _, _, _, _, _, _, _, _, _, _, _, _, _, _, ?qa, rfl⟩, ?qb⟩
          case qa => exact ⟨n + 1, by omega, by omega, by go_num, HQ, hb9.trans hb4, ov4, ho4⟩
          case qb => simp [intOf]; omega
      · have hlt' : ¬ (n : Int) < (wi : Int) := by omega
        have HQ : Hid (none = R) := by unfold Hid; rw [← HR.out, show wi - n = 0 by omega]; rfl
        obtain ⟨ov, ho⟩ := hov
        clear HR
        go_wp2
        go_ret
        exact ⟨ret_of (bool_of (by rw [← HQ.out]; rfl)), hbl, ov, ho, fun r hr => by rw [← HQ.out] at hr; cases hr⟩
end Go.Proofs.Ytgnjhaomlbkgcaa
