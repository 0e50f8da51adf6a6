/- What fog.With answers, and its function value. -/
import Derived.Test.YtpbpcplboikpcaaGreatG5
import Derived.Laws.StructEq
namespace Go.Proofs.YtpbpcplboikpcaaGreat
open Go Go.RowKit Go.Shelf
set_option linter.unusedVariables false
set_option linter.unusedSimpArgs false

/-- The error of a report more. -/
def withE (f : Fg) (k : Int) (r : Rp) : Int := if cartE f k ≠ 0 then cartE f k else if blOK f r.bl then (if (ctAt f k).rp.any (fun x => x.bl == r.bl) then 5 else 0) else 1
/-- The fog with a report more. -/
def withF (f : Fg) (k : Int) (r : Rp) : Fg := { f with ct := f.ct.set k.toNat { ctAt f k with rp := (ctAt f k).rp ++ [r] } }
set_option maxRecDepth 100000 in
set_option maxHeartbeats 1000000 in
theorem with1_fn (w : World) (B : Nat) (r : Rp) (h : w.cell? ⟨B, 0, none⟩ = some (.int .i64 r.bl)) :
    FnP Tryz.prog (.func (.func 124) #[] #[.pointer (some ⟨B, 0, none⟩)]) w RpR anyx (fun x => x.bl == r.bl) := by
  refine ⟨_, _, _, rfl, enters_of Tryz.func124 (by kernel_rfl) rfl, fun x v W hs hW hR => ?_⟩
  obtain rfl : v = x.val := hR
  have h2 := hW.cell h
  have h3 := fun o => (Ext.alloc (Ext.refl W) o).cell h2
  obtain ⟨xb, xh⟩ := x
  obtain ⟨rb, rh⟩ := r
  unfold Rp.val
  show Calls _ _ #[_, _] _ _
  go_enter Tryz.func124, Tryz.ntmps124
  cases hq : (xb == rb)
  · go_wp2
    go_ret
    exact ⟨rfl, Ext.alloc (Ext.refl _) _⟩
  · go_wp2
    go_ret
    exact ⟨rfl, Ext.alloc (Ext.refl _) _⟩
end Go.Proofs.YtpbpcplboikpcaaGreat
