/- The walks of warn's all, Check and All. -/
import Derived.Test.YtgnjhaomlbkgcaaWCheck
namespace Go.Proofs.Ytgnjhaomlbkgcaa
open Go Go.RowKit
set_option linter.unusedVariables false
set_option linter.unusedSimpArgs false

theorem flat_drop (l : List Cl) (k : Nat) (x : Cl) (h : l[k]? = some x) : (l.drop k).flatMap (·.bs) = x.bs ++ (l.drop (k + 1)).flatMap (·.bs) := by
  have hk : k < l.length := (List.getElem?_eq_some_iff.1 h).1
  rw [List.drop_eq_getElem_cons hk, (List.getElem?_eq_some_iff.1 h).2]
  rfl

set_option maxHeartbeats 1000000 in
theorem all_calls (v : Value) (c : Cs) (w : World) (hc : CsR w v c) (hs : c.all.length * 24 ≤ 140737488355328) (hcl : c.cl.length ≤ 9223372036854775807) :
    Calls Try.prog 84 #[v] w fun e w' => ∃ A' c', e = .returned (.slice A' c.all.length c') ∧
      w'.ownsRow w.heap.size 35 3 (.slice A' c.all.length c') c.all.length (bcells c.all) ∧ Ext w w' := by
  obtain ⟨A1, c1, A2, c2, rfl, hB, hC⟩ := hc
  have hlen : c.bs.length ≤ c.all.length := by simp [Cs.all]
  have HF : Hid (c.all = c.bs ++ (c.cl.drop 0).flatMap (·.bs)) := rfl
  generalize hF : c.all = F at HF hs hlen ⊢
  clear hF
  go_enter Try.func84, Try.ntmps84
  go_wp2_with fail
  refine (clone_bound A1 c1 c.bs _ (hB.ext (Ext.alloc (Ext.refl w) _)) (by omega)).mono ?_
  rintro e w1 ⟨A3, c3, rfl, hown, hn, hb1⟩
  have hx1 := (Ext.alloc (Ext.refl w) _).trans hb1
  have HN := hid hn
  have HO := hid hown
  clear hn hown
  have kc := hb1.cell (p := ⟨w.heap.size, 3, none⟩) (u := .slice A2 c.cl.length c2) (by simp [go_sem])
  go_wp2
  go_loopg [3, 12] c.cl.length (fun gg s3 s12 wr => ∃ (kk : Nat) (cur : List Bd) (A' : Option Addr) (c' : Nat), kk ≤ c.cl.length ∧ c.cl.length - kk ≤ gg ∧ s12 = .int .i64 kk ∧ s3 = .slice A' cur.length c' ∧
     Ext w wr ∧ Hid (wr.ownsRow (w.heap.size + 1) 35 3 (.slice A' cur.length c') cur.length (bcells cur)) ∧ Hid (F = cur ++ (c.cl.drop kk).flatMap (·.bs)))
  case atStart => exact ⟨0, c.bs, A3, c3, Nat.zero_le _, by omega, rfl, rfl, hx1, by simpa using HO, HF⟩
  case round =>
    obtain ⟨kk, cur, A', c', h1, h2, rfl, rfl, hx, HO', HF'⟩ := hrel
    by_cases hlt : kk < c.cl.length
    · have hlt' : (kk : Int) < (c.cl.length : Int) := by omega
      obtain ⟨x, hx2⟩ := get_of_lt c.cl kk hlt
      have HX := hid hx2
      clear hx2
      have hC2 := hC.ext hx
      obtain ⟨b, off, A4, c4, rfl, k0, k1, hB4⟩ := hC2.at_ HX.out
      have HD := hid (flat_drop c.cl kk x HX.out)
      have hbound : cur.length + x.bs.length ≤ F.length := by rw [HF'.out, HD.out]; simp
      have hsz := hx.size
      have hk : Ext w (wr.alloc (.cells #[.int .i64 x.w, .slice A4 x.bs.length c4] 37)) := hx.alloc _
      go_wp2_with (at_builtin; refine wpList_append_rd _ rfl _ _ 23 rfl elem_bound (w.heap.size + 1) _ cur.length (bcells cur) rfl (own_below HO'.out (Ext.alloc (Ext.refl wr) _)) A4 x.bs.length c4 (bcells x.bs) rfl (bcells_len _) ?qc2 (bcells_one _) (by omega) ?qc5 ?_)
      case qc2 => exact hB4.ext (Ext.alloc (Ext.refl wr) _)
      intro A5 c5 w5 hown5 hbel5 _ _
      have HO5 := hid hown5
      clear hown5
      have hx5 : Ext w w5 := Below.trans hk (Below.mono hbel5 (by omega))
      go_wp2
      go_roundg (c.cl.length - (kk + 1))
      case measure => omega
      case rel => exact ⟨kk + 1, cur ++ x.bs, A5, c5, by omega, by omega, by go_num, by simp, hx5, by simpa [bcells_app] using HO5, by unfold Hid; rw [HF'.out, HD.out, List.append_assoc]⟩
    · have hlt' : ¬ (kk : Int) < (c.cl.length : Int) := by omega
      go_wp2
      go_ret
      have hF : F = cur := by rw [HF'.out, List.drop_eq_nil_of_le (by omega)]; simp
      refine ⟨A', c', ret_of (by rw [hF]; rfl), ?_, hx⟩
      rw [hF]
      exact own_base HO'.out (by omega)

theorem check1_fn (w : World) : FnP Try.prog (.func (.func 121) #[] #[]) w ClR (fun x => x.bs.length ≤ 9223372036854775807) (fun x => decide (x.bs.length ≤ 4)) := by
  refine ⟨_, _, _, rfl, enters_of Try.func121 (by kernel_rfl) rfl, fun x v W hs hW hR => ?_⟩
  obtain ⟨A, c, rfl, hB⟩ := hR
  show Calls _ _ #[_] _ _
  by_cases hq : x.bs.length ≤ 4
  · have hq' : (x.bs.length : Int) ≤ 4 := by omega
    have H := hid hq
    clear hq
    go_enter Try.func121, Try.ntmps121
    go_wp2
    go_ret
    exact ⟨ret_of (bool_of (by simp [H.out, hq'])), Ext.alloc (Ext.refl W) _⟩
  · have hq' : ¬ (x.bs.length : Int) ≤ 4 := by omega
    have H := hid hq
    clear hq
    go_enter Try.func121, Try.ntmps121
    go_wp2
    go_ret
    exact ⟨ret_of (bool_of (by simp [H.out, hq'])), Ext.alloc (Ext.refl W) _⟩

theorem check2_fn (v : Value) (c : Cs) (w : World) (B : Nat) (h0 : 0 ≤ c.wi) (h6 : c.wi ≤ 6) (hc : CsR w v c)
    (hB : ∃ A1 c1 A2 c2, v = .agg #[.int .i64 c.ev, .slice A1 c.bs.length c1, .int .i64 c.wi, .slice A2 c.cl.length c2] ∧ w.cell? ⟨B, 0, none⟩ = some (.int .i64 c.ev) ∧ w.cell? ⟨B, 1, none⟩ = some (.slice A1 c.bs.length c1) ∧
      w.cell? ⟨B, 2, none⟩ = some (.int .i64 c.wi) ∧ w.cell? ⟨B, 3, none⟩ = some (.slice A2 c.cl.length c2)) :
    FnP Try.prog (.func (.func 122) #[] #[.pointer (some ⟨B, 0, none⟩)]) w ClR anyx (fun x => inB x.w 0 (c.wi - 1)) := by
  refine ⟨_, _, _, rfl, enters_of Try.func122 (by kernel_rfl) rfl, fun x v2 W _ hW hR => ?_⟩
  obtain ⟨A, k, rfl, hB2⟩ := hR
  obtain ⟨A1, c1, A2, c2, rfl, e0, e1, e2, e3⟩ := hB
  show Calls _ _ #[_, _] _ _
  have f0 : ∀ o, (W.alloc o).cell? ⟨B, 0, none⟩ = _ := fun o => (hW.alloc o).cell e0
  have f1 : ∀ o, (W.alloc o).cell? ⟨B, 1, none⟩ = _ := fun o => (hW.alloc o).cell e1
  have f2 : ∀ o, (W.alloc o).cell? ⟨B, 2, none⟩ = _ := fun o => (hW.alloc o).cell e2
  have f3 : ∀ o, (W.alloc o).cell? ⟨B, 3, none⟩ = _ := fun o => (hW.alloc o).cell e3
  go_enter Try.func122, Try.ntmps122
  go_wp2_with fail
  refine (witness_any _ c _ _ (hc.kc (hW.alloc _)) h0 h6).mono ?_
  rintro e w1 ⟨rfl, hb1⟩
  go_wp2
  go_ret
  exact ⟨rfl, (Ext.alloc (Ext.refl W) _).trans hb1⟩

theorem check3_fn (w : World) : FnP Try.prog (.func (.func 125) #[] #[]) w BdR anyx (fun b => b.f != b.t) := by
  refine ⟨_, _, _, rfl, enters_of Try.func125 (by kernel_rfl) rfl, fun x v W _ hW hR => ?_⟩
  obtain rfl : v = x.val := hR
  unfold Bd.val
  show Calls _ _ #[_] _ _
  go_enter Try.func125, Try.ntmps125
  go_wp2
  go_ret
  exact ⟨rfl, Ext.alloc (Ext.refl W) _⟩
end Go.Proofs.Ytgnjhaomlbkgcaa
