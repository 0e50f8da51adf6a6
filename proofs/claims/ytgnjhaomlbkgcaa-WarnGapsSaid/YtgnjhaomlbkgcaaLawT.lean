/- Small facts that several laws use. No program stands here but in what is imported. -/
import Derived.Test.YtgnjhaomlbkgcaaWMadeP
import Derived.Test.YtgnjhaomlbkgcaaHolds
namespace Go.Proofs.Ytgnjhaomlbkgcaa
open Go Go.RowKit
set_option linter.unusedVariables false
set_option linter.unusedSimpArgs false

theorem MadeOK.sized1 {evm bm cm : Nat} {lo : Int} {c : Cs} {real : List Int} (h : MadeOK evm bm cm lo c real) (hb : bm ≤ 20) (hc : cm ≤ 8) : c.sized :=
  ⟨by have := h.bsl; omega, by have := h.cll; omega, fun x hx => by have := (h.cl x hx).2.1; omega⟩
theorem bdIn_of {c : Cs} (h0 : checkC c = 0) {n : Nat} (hn : (n : Int) = c.ev) : ∀ b ∈ c.all, bdIn n b := fun b hb => by
  have h1 := evOK_get (checkC_ok h0).2.2.1 hb
  have h2 := limOK_get (checkC_ok h0).2.1 hb
  exact ⟨by omega, by omega, by omega, by omega⟩
end Go.Proofs.Ytgnjhaomlbkgcaa
