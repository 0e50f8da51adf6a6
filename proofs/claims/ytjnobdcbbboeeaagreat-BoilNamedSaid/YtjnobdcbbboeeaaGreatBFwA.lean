/- boil.Proof, paired, and Dup over pairs. Printed by my gen_bfws.py. -/
import Derived.Test.YtjnobdcbbboeeaaGreatBPrf2
import Derived.Test.YtjnobdcbbboeeaaGreatBCmp
import Derived.Test.YtjnobdcbbboeeaaGreatH9
namespace Go.Proofs.YtjnobdcbbboeeaaGreat
open Go Go.RowKit Go.Shelf
set_option linter.unusedVariables false
set_option linter.unusedSimpArgs false

def PrfxPost (w : World) (h : Hs) (e : Ending) (w' : World) : Prop :=
  ∃ (A' : Option Addr) (c' : Nat) (pr : List (Int × Int)), e = .returned (.tuple #[.slice A' pr.length c', .int .i64 (checkH h)]) ∧ Ext w w' ∧ Prs w' A' pr ∧ (checkH h ≠ 0 → pr = []) ∧ (checkH h = 0 → pr.length = sizeH h ∧ PrfGood h pr)
set_option maxRecDepth 100000 in
set_option maxHeartbeats 2000000 in
theorem proofx_any (v : Value) (h : Hs) (w : World) (hr : HsR w v h) (hs : h.sized) :
    Calls Tryz.prog 7 #[v] w (PrfxPost w h) := by
  obtain ⟨A, c, rfl, hrw, hcap⟩ := hr
  unfold PrfxPost
  obtain ⟨T, hT⟩ : ∃ T, checkH h = T := ⟨_, rfl⟩
  obtain ⟨w1, hw1⟩ : ∃ w1, w.alloc (.cells #[.int .i64 h.mo, .int .i64 h.pk, .slice A h.ws.length c] 25) = w1 := ⟨_, rfl⟩
  have hx1 : Ext w w1 := by rw [← hw1]; exact Ext.alloc (Ext.refl w) _
  have b1 : w1.heap[w.heap.size]? = some (.cells #[.int .i64 h.mo, .int .i64 h.pk, .slice A h.ws.length c] 25 (0, 0)) := by rw [← hw1]; exact heap_alloc_new w _
  obtain ⟨c0, c1, c2, -⟩ := house_cells b1
  have KO := hid (opened_any (hval h A c) h w1 ⟨A, c, rfl, Rows.ext hrw hx1, hcap⟩ hs)
  unfold hval at KO
  have HT := hid hT
  have HW1 := hid hw1
  rw [hT]
  clear hw1 hT hrw b1 hs
  unfold hval
  go_enter Tryz.func7, Tryz.ntmps7
  go_upto_region 1 with fail
  rw [HW1.out]
  clear HW1
  go_wp2_with fail
  refine KO.out.mono ?_
  rintro e w2 ⟨r, rfl, h2, hok, hbad⟩
  rw [HT.out]
  rw [HT.out] at hok hbad
  have hx2 := hx1.trans h2
  clear KO c0 c1 c2
  by_cases h0 : T = 0
  case neg =>
    have h0b : (T != 0) = true := by simpa using h0
    go_wp2
    go_ret2
    exact ⟨none, 0, [], rfl, hx2, .inl rfl, fun _ => rfl, fun e => absurd e h0⟩
  subst h0
  have k := checkH_ok HT.out
  obtain ⟨D, A2, cc, rfl, hd, -, -⟩ := hok rfl
  have KP := hid (proof2_any h D A2 cc w2 k.len hd)
  clear hok hbad
  go_wp2_with fail
  refine KP.out.mono ?_
  rintro e w3 ⟨A3, c3, pr, rfl, hx3, hl, hp, hsrt, hrd⟩
  have HG := hid (prf_good k hp hsrt)
  have HLP := hid hl
  clear KP hl hp hsrt k
  go_wp2
  go_ret2
  refine ⟨A3, c3, pr, rfl, hx2.trans hx3, hrd, ?_⟩
  first | exact ⟨HLP.out, HG.out⟩ | exact ⟨fun e => absurd rfl e, fun _ => ⟨HLP.out, HG.out⟩⟩
end Go.Proofs.YtjnobdcbbboeeaaGreat
