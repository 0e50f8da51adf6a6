/- slices.Equal and laurelkit.Eq over numbers. -/
import Derived.Test.YtgnjhaomlbkgcaaBase
import Derived.Test.YtgnjhaomlbkgcaaProg
namespace Go.Proofs.Ytgnjhaomlbkgcaa
open Go Go.RowKit
set_option linter.unusedVariables false
set_option linter.unusedSimpArgs false

theorem eq_drop {l m : List Int} {k : Nat} {x y : Int} (hx : l[k]? = some x) (hy : m[k]? = some y) : (l.drop k == m.drop k) = ((x == y) && (l.drop (k + 1) == m.drop (k + 1))) := by
  have h1 : k < l.length := (List.getElem?_eq_some_iff.1 hx).1
  have h2 : k < m.length := (List.getElem?_eq_some_iff.1 hy).1
  rw [List.drop_eq_getElem_cons h1, List.drop_eq_getElem_cons h2, (List.getElem?_eq_some_iff.1 hx).2, (List.getElem?_eq_some_iff.1 hy).2]
  rfl

set_option maxRecDepth 100000 in
set_option maxHeartbeats 1000000 in
theorem equal_int (A A' : Option Addr) (c c' : Nat) (l m : List Int) (w : World) (hA : Ints w A l) (hB : Ints w A' m) (hl : l.length ≤ 9223372036854775807) (hm : m.length ≤ 9223372036854775807) :
    Calls Try.prog 94 #[.slice A l.length c, .slice A' m.length c'] w fun e w' => e = .returned (.bool (l == m)) ∧ Ext w w' := by
  by_cases hlen : l.length = m.length
  · generalize hN : m.length = N at *
    have HF : Hid ((l.drop 0 == m.drop 0) = (l == m)) := rfl
    generalize hF : (l == m) = F at HF ⊢
    clear hF
    have hn1 : (l.length : Int) = N := by omega
    obtain rfl : l.length = N := hlen
    clear hn1
    have HN := hid hN
    clear hN
    go_enter Try.func94, Try.ntmps94
    go_wp2
    go_loopw [5, 13] (fun _ i wr => ∃ k : Nat, k ≤ l.length ∧ i = .int .i64 (k : Int) ∧ Ext w wr ∧ Hid ((l.drop k == m.drop k) = F)) (fun _ i _ => l.length - (intOf i).toNat)
    case atStart => exact ⟨0, Nat.zero_le _, rfl, Ext.refl _, HF⟩
    case round =>
      obtain ⟨k, hk, rfl, hx, HF⟩ := hrel
      by_cases hlt : k < l.length
      · have hlt' : (k : Int) < (l.length : Int) := by omega
        obtain ⟨x, hx1⟩ := get_of_lt l k hlt
        obtain ⟨y, hy1⟩ := get_of_lt m k (by rw [HN.out]; exact hlt)
        obtain ⟨b1, o1, rfl, g1⟩ := (hA.ext hx).at_ hx1
        obtain ⟨b2, o2, rfl, g2⟩ := (hB.ext hx).at_ hy1
        have HX : Hid (((x == y) && (l.drop (k + 1) == m.drop (k + 1))) = F) := by unfold Hid; rw [← HF.out, eq_drop hx1 hy1]
        clear HF hx1 hy1
        by_cases hxy : x = y
        · subst hxy
          have hq : (x != x) = false := by simp
          have HX2 : Hid ((l.drop (k + 1) == m.drop (k + 1)) = F) := by unfold Hid; rw [← HX.out]; simp
          go_wp2
          go_quiet (fail)
          go_wp2
          go_roundw
          case rel => exact ⟨k + 1, by omega, by go_num, hx.drewN _, HX2⟩
          case measure => simp [intOf]; omega
        · have hq : (x != y) = true := by simpa using hxy
          have HX2 : Hid (false = F) := by unfold Hid; rw [← HX.out]; simp [hxy]
          go_wp2
          go_quiet (fail)
          go_wp2
          go_ret
          exact ⟨ret_of (bool_of HX2.out), hx.drewN _⟩
      · have hlt' : ¬ (k : Int) < (l.length : Int) := by omega
        have HX2 : Hid (true = F) := by
          unfold Hid
          rw [← HF.out, List.drop_eq_nil_of_le (by omega), List.drop_eq_nil_of_le (by rw [HN.out]; omega)]; rfl
        go_wp2
        go_ret
        exact ⟨ret_of (bool_of HX2.out), hx⟩
  · have hq : ((l.length : Int) != (m.length : Int)) = true := by simp; omega
    have HF : Hid ((l == m) = false) := by
      unfold Hid
      rw [beq_eq_false_iff_ne]
      intro e; exact hlen (by rw [e])
    generalize hF : (l == m) = F at HF ⊢
    clear hF
    go_enter Try.func94, Try.ntmps94
    go_wp2
    go_ret
    exact ⟨ret_of (bool_of HF.out.symm), Ext.refl _⟩

theorem eq_int (A A' : Option Addr) (c c' : Nat) (l m : List Int) (w : World) (hA : Ints w A l) (hB : Ints w A' m) (hl : l.length ≤ 9223372036854775807) (hm : m.length ≤ 9223372036854775807) :
    Calls Try.prog 32 #[.slice A l.length c, .slice A' m.length c'] w fun e w' => e = .returned (.bool (l == m)) ∧ Ext w w' := by
  generalize hF : (l == m) = F
  have HF := hid hF
  clear hF
  go_enter Try.func32, Try.ntmps32
  go_wp2_with fail
  refine (equal_int A A' c c' l m w hA hB hl hm).mono ?_
  rw [HF.out]
  rintro e w1 ⟨rfl, hb⟩
  go_wp2
  go_ret
  exact ⟨rfl, hb⟩
end Go.Proofs.Ytgnjhaomlbkgcaa
