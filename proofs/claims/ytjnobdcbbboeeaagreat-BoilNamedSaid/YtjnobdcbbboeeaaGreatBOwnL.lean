/- The walks of laurelkit's Dup over weighings, and the law's Own. -/
import Derived.Test.YtjnobdcbbboeeaaGreatBLwc
namespace Go.Proofs.YtjnobdcbbboeeaaGreat
open Go Go.RowKit Go.Shelf
set_option linter.unusedVariables false
set_option linter.unusedSimpArgs false

end Go.Proofs.YtjnobdcbbboeeaaGreat
