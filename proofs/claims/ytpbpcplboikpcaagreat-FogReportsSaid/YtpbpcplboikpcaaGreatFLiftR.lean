/- How a fog.Report that comes in reads. -/
import Derived.Test.YtpbpcplboikpcaaGreatFLift
namespace Go.Proofs.YtpbpcplboikpcaaGreat
open Go Go.RowKit Go.Deep Go.ChangeShapes Go.WideShapes Go.Joins
set_option linter.unusedVariables false
set_option linter.unusedSimpArgs false
set_option maxRecDepth 100000

/-- The report that stands as v. -/
theorem open_rep {H : Type} {enc : TypeId × Value → H} {W : World} {r : Reach} {b0 : Nat} {v : Value} {d : DataW H} {p : List MemPlace} (hv : Value.okWide Tryz.prog W r b0 53 v) (h : DataW.Trod enc Tryz.prog W 0 (fun _ => true) true 53 v d p) :
    ∃ x : Rp, v = x.val := by
  obtain ⟨cs, rfl, hsz⟩ := okWide_struct Tryz.underlying53 hv
  have hC : Tryz.prog.cellsOf 53 = 2 := by kernel_rfl
  rw [hC] at hsz
  obtain ⟨l⟩ := cs
  obtain ⟨fuel, hf⟩ := h
  obtain ⟨x, hx⟩ := elem_rep_in (enc := enc) (W := W) fuel l (d, p) (show l.length = 2 by simpa using hsz) (by simpa [Value.cells] using hf)
  exact ⟨x, by rw [hx]; rfl⟩
end Go.Proofs.YtpbpcplboikpcaaGreat
