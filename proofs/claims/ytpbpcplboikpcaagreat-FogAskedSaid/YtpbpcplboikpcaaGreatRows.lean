/-
  No cell of these rows narrows 'for every input' (looked for: loops, veiled, ifaces, maps, wideKeys, modest, calm, conditions, laid).
  DERIVED. THE GIVEN ROWS OF THIS SEAT. 11 by the template 'for every input the law returns true; each argument reads behind the call as it read before'; 0 by the template 'total and deterministic' (their statements: YtpbpcplboikpcaaGreatTotals.lean).
  GIVEN WITH THE SEED: the statements are not yours to turn. If you find one false, say at which input.
  Laid BY PROGRAM, IN A SANDBOX (cutbox-rows.mjs): the forced cells as the released guide's own fill.sh prints them over the translation d530e33f39557016… (all of the seat's roots in one cut). By AI agents, Wed Nov 11 2026. No macro, syntax, notation, axiom, sorry.
-/
import Derived.Test.YtpbpcplboikpcaaGreatChecked
import GoSem.Claim
import GoSem.ClaimJoined
import GoSem.ClaimMapViews
import Derived.JoinedTies
import Derived.KernelRfl
namespace Go.Proofs.YtpbpcplboikpcaaGreat
/- THE CELL 'sum', in the pinned program and in every row, IS THE sha256 OF THE DUMP (.gsa) THAT YtpbpcplboikpcaaGreatProg.lean LOADS. Nothing in Lean hashes anything: it is a label: what it is worth is what the hold of that sum in a sandbox is worth. -/
noncomputable def Tryz.pinned : Pinned := { name := "ytpbpcplboikpcaagreat", sum := "d530e33f395570164127011cf03a566bbb7137e3795f9a8fe97af84a7229387d", checked := Tryz.checked }
namespace Rows
def none {H : Type} : Left H := { results := [], args := [] }

/-- 'laurellaw05.FogChecks': WHATEVER THE INPUT: true; the input reads as it did. -/
def fogChecksSpec : ChangeSpec := { name := "fogChecks", fn := fun _ => fun
  | [d1, d2, d3, d4] => { results := [.lit (.bool true)], args := [d1, d2, d3, d4] }
  | _ => none }
def fogChecksRow : OpenClaim := { program := "ytpbpcplboikpcaagreat", sum := "d530e33f395570164127011cf03a566bbb7137e3795f9a8fe97af84a7229387d", func := "laurel/laurellaw05.FogChecks", spec := "fogChecks", unfollowed := true, recurses := true, plainKeys := false, apart := false }
def FogChecksSaid : Prop := fogChecksRow.holds Tryz.pinned (OpenSpec.ofChange fogChecksSpec)

/-- ITS FALSE NEIGHBOUR: 'it returns false'. Refute it at one input. -/
def fogChecksWrong : ChangeSpec := { name := "fogChecks", fn := fun _ => fun
  | [d1, d2, d3, d4] => { results := [.lit (.bool false)], args := [d1, d2, d3, d4] }
  | _ => none }
def FogChecksWrongFalsely : Prop := fogChecksRow.holds Tryz.pinned (OpenSpec.ofChange fogChecksWrong)

/-- 'laurellaw05.FogReports': WHATEVER THE INPUT: true; the input reads as it did. -/
def fogReportsSpec : ChangeSpec := { name := "fogReports", fn := fun _ => fun
  | [d1, d2, d3, d4] => { results := [.lit (.bool true)], args := [d1, d2, d3, d4] }
  | _ => none }
def fogReportsRow : OpenClaim := { program := "ytpbpcplboikpcaagreat", sum := "d530e33f395570164127011cf03a566bbb7137e3795f9a8fe97af84a7229387d", func := "laurel/laurellaw05.FogReports", spec := "fogReports", unfollowed := true, recurses := true, plainKeys := false, apart := false }
def FogReportsSaid : Prop := fogReportsRow.holds Tryz.pinned (OpenSpec.ofChange fogReportsSpec)

/-- ITS FALSE NEIGHBOUR: 'it returns false'. Refute it at one input. -/
def fogReportsWrong : ChangeSpec := { name := "fogReports", fn := fun _ => fun
  | [d1, d2, d3, d4] => { results := [.lit (.bool false)], args := [d1, d2, d3, d4] }
  | _ => none }
def FogReportsWrongFalsely : Prop := fogReportsRow.holds Tryz.pinned (OpenSpec.ofChange fogReportsWrong)

/-- 'laurellaw05.FogDecides': WHATEVER THE INPUT: true; the input reads as it did. -/
def fogDecidesSpec : ChangeSpec := { name := "fogDecides", fn := fun _ => fun
  | [d1, d2, d3, d4, d5] => { results := [.lit (.bool true)], args := [d1, d2, d3, d4, d5] }
  | _ => none }
def fogDecidesRow : OpenClaim := { program := "ytpbpcplboikpcaagreat", sum := "d530e33f395570164127011cf03a566bbb7137e3795f9a8fe97af84a7229387d", func := "laurel/laurellaw05.FogDecides", spec := "fogDecides", unfollowed := true, recurses := true, plainKeys := false, apart := false }
def FogDecidesSaid : Prop := fogDecidesRow.holds Tryz.pinned (OpenSpec.ofChange fogDecidesSpec)

/-- ITS FALSE NEIGHBOUR: 'it returns false'. Refute it at one input. -/
def fogDecidesWrong : ChangeSpec := { name := "fogDecides", fn := fun _ => fun
  | [d1, d2, d3, d4, d5] => { results := [.lit (.bool false)], args := [d1, d2, d3, d4, d5] }
  | _ => none }
def FogDecidesWrongFalsely : Prop := fogDecidesRow.holds Tryz.pinned (OpenSpec.ofChange fogDecidesWrong)

/-- 'laurellaw05.FogWalks': WHATEVER THE INPUT: true; the input reads as it did. -/
def fogWalksSpec : ChangeSpec := { name := "fogWalks", fn := fun _ => fun
  | [d1, d2, d3, d4, d5] => { results := [.lit (.bool true)], args := [d1, d2, d3, d4, d5] }
  | _ => none }
def fogWalksRow : OpenClaim := { program := "ytpbpcplboikpcaagreat", sum := "d530e33f395570164127011cf03a566bbb7137e3795f9a8fe97af84a7229387d", func := "laurel/laurellaw05.FogWalks", spec := "fogWalks", unfollowed := true, recurses := true, plainKeys := false, apart := false }
def FogWalksSaid : Prop := fogWalksRow.holds Tryz.pinned (OpenSpec.ofChange fogWalksSpec)

/-- ITS FALSE NEIGHBOUR: 'it returns false'. Refute it at one input. -/
def fogWalksWrong : ChangeSpec := { name := "fogWalks", fn := fun _ => fun
  | [d1, d2, d3, d4, d5] => { results := [.lit (.bool false)], args := [d1, d2, d3, d4, d5] }
  | _ => none }
def FogWalksWrongFalsely : Prop := fogWalksRow.holds Tryz.pinned (OpenSpec.ofChange fogWalksWrong)

/-- 'laurellaw05.FogPlaces': WHATEVER THE INPUT: true; the input reads as it did. -/
def fogPlacesSpec : ChangeSpec := { name := "fogPlaces", fn := fun _ => fun
  | [d1, d2, d3, d4, d5] => { results := [.lit (.bool true)], args := [d1, d2, d3, d4, d5] }
  | _ => none }
def fogPlacesRow : OpenClaim := { program := "ytpbpcplboikpcaagreat", sum := "d530e33f395570164127011cf03a566bbb7137e3795f9a8fe97af84a7229387d", func := "laurel/laurellaw05.FogPlaces", spec := "fogPlaces", unfollowed := true, recurses := true, plainKeys := false, apart := false }
def FogPlacesSaid : Prop := fogPlacesRow.holds Tryz.pinned (OpenSpec.ofChange fogPlacesSpec)

/-- ITS FALSE NEIGHBOUR: 'it returns false'. Refute it at one input. -/
def fogPlacesWrong : ChangeSpec := { name := "fogPlaces", fn := fun _ => fun
  | [d1, d2, d3, d4, d5] => { results := [.lit (.bool false)], args := [d1, d2, d3, d4, d5] }
  | _ => none }
def FogPlacesWrongFalsely : Prop := fogPlacesRow.holds Tryz.pinned (OpenSpec.ofChange fogPlacesWrong)

/-- 'laurellaw05.FogMet': WHATEVER THE INPUT: true; the input reads as it did. -/
def fogMetSpec : ChangeSpec := { name := "fogMet", fn := fun _ => fun
  | [d] => { results := [.lit (.bool true)], args := [d] }
  | _ => none }
def fogMetRow : OpenClaim := { program := "ytpbpcplboikpcaagreat", sum := "d530e33f395570164127011cf03a566bbb7137e3795f9a8fe97af84a7229387d", func := "laurel/laurellaw05.FogMet", spec := "fogMet", inPlace := ["slices.overlaps[int]"], unfollowed := true, recurses := true, plainKeys := false, apart := false }
def FogMetSaid : Prop := fogMetRow.holds Tryz.pinned (OpenSpec.ofChange fogMetSpec)

/-- ITS FALSE NEIGHBOUR: 'it returns false'. Refute it at one input. -/
def fogMetWrong : ChangeSpec := { name := "fogMet", fn := fun _ => fun
  | [d] => { results := [.lit (.bool false)], args := [d] }
  | _ => none }
def FogMetWrongFalsely : Prop := fogMetRow.holds Tryz.pinned (OpenSpec.ofChange fogMetWrong)

/-- 'laurellaw05.FogClashed': WHATEVER THE INPUT: true; the input reads as it did. -/
def fogClashedSpec : ChangeSpec := { name := "fogClashed", fn := fun _ => fun
  | [d1, d2] => { results := [.lit (.bool true)], args := [d1, d2] }
  | _ => none }
def fogClashedRow : OpenClaim := { program := "ytpbpcplboikpcaagreat", sum := "d530e33f395570164127011cf03a566bbb7137e3795f9a8fe97af84a7229387d", func := "laurel/laurellaw05.FogClashed", spec := "fogClashed", inPlace := ["slices.overlaps[int]"], unfollowed := true, recurses := true, plainKeys := false, apart := false }
def FogClashedSaid : Prop := fogClashedRow.holds Tryz.pinned (OpenSpec.ofChange fogClashedSpec)

/-- ITS FALSE NEIGHBOUR: 'it returns false'. Refute it at one input. -/
def fogClashedWrong : ChangeSpec := { name := "fogClashed", fn := fun _ => fun
  | [d1, d2] => { results := [.lit (.bool false)], args := [d1, d2] }
  | _ => none }
def FogClashedWrongFalsely : Prop := fogClashedRow.holds Tryz.pinned (OpenSpec.ofChange fogClashedWrong)

/-- 'laurellaw05.FogStill': WHATEVER THE INPUT: true; the input reads as it did. -/
def fogStillSpec : ChangeSpec := { name := "fogStill", fn := fun _ => fun
  | [d1, d2] => { results := [.lit (.bool true)], args := [d1, d2] }
  | _ => none }
def fogStillRow : OpenClaim := { program := "ytpbpcplboikpcaagreat", sum := "d530e33f395570164127011cf03a566bbb7137e3795f9a8fe97af84a7229387d", func := "laurel/laurellaw05.FogStill", spec := "fogStill", inPlace := ["slices.overlaps[int]"], unfollowed := true, recurses := true, plainKeys := false, apart := false }
def FogStillSaid : Prop := fogStillRow.holds Tryz.pinned (OpenSpec.ofChange fogStillSpec)

/-- ITS FALSE NEIGHBOUR: 'it returns false'. Refute it at one input. -/
def fogStillWrong : ChangeSpec := { name := "fogStill", fn := fun _ => fun
  | [d1, d2] => { results := [.lit (.bool false)], args := [d1, d2] }
  | _ => none }
def FogStillWrongFalsely : Prop := fogStillRow.holds Tryz.pinned (OpenSpec.ofChange fogStillWrong)

/-- 'laurellaw05.FogFound': WHATEVER THE INPUT: true; the input reads as it did. -/
def fogFoundSpec : ChangeSpec := { name := "fogFound", fn := fun _ => fun
  | [d1, d2, d3, d4] => { results := [.lit (.bool true)], args := [d1, d2, d3, d4] }
  | _ => none }
def fogFoundRow : OpenClaim := { program := "ytpbpcplboikpcaagreat", sum := "d530e33f395570164127011cf03a566bbb7137e3795f9a8fe97af84a7229387d", func := "laurel/laurellaw05.FogFound", spec := "fogFound", inPlace := ["slices.overlaps[int]"], unfollowed := true, recurses := true, plainKeys := false, apart := false }
def FogFoundSaid : Prop := fogFoundRow.holds Tryz.pinned (OpenSpec.ofChange fogFoundSpec)

/-- ITS FALSE NEIGHBOUR: 'it returns false'. Refute it at one input. -/
def fogFoundWrong : ChangeSpec := { name := "fogFound", fn := fun _ => fun
  | [d1, d2, d3, d4] => { results := [.lit (.bool false)], args := [d1, d2, d3, d4] }
  | _ => none }
def FogFoundWrongFalsely : Prop := fogFoundRow.holds Tryz.pinned (OpenSpec.ofChange fogFoundWrong)

/-- 'laurellaw05.FogAsked': WHATEVER THE INPUT: true; the input reads as it did. -/
def fogAskedSpec : ChangeSpec := { name := "fogAsked", fn := fun _ => fun
  | [d1, d2, d3] => { results := [.lit (.bool true)], args := [d1, d2, d3] }
  | _ => none }
def fogAskedRow : OpenClaim := { program := "ytpbpcplboikpcaagreat", sum := "d530e33f395570164127011cf03a566bbb7137e3795f9a8fe97af84a7229387d", func := "laurel/laurellaw05.FogAsked", spec := "fogAsked", inPlace := ["slices.overlaps[int]"], unfollowed := true, recurses := true, plainKeys := false, apart := false }
def FogAskedSaid : Prop := fogAskedRow.holds Tryz.pinned (OpenSpec.ofChange fogAskedSpec)

/-- ITS FALSE NEIGHBOUR: 'it returns false'. Refute it at one input. -/
def fogAskedWrong : ChangeSpec := { name := "fogAsked", fn := fun _ => fun
  | [d1, d2, d3] => { results := [.lit (.bool false)], args := [d1, d2, d3] }
  | _ => none }
def FogAskedWrongFalsely : Prop := fogAskedRow.holds Tryz.pinned (OpenSpec.ofChange fogAskedWrong)

/-- 'laurellaw05.FogMore': WHATEVER THE INPUT: true; the input reads as it did. -/
def fogMoreSpec : ChangeSpec := { name := "fogMore", fn := fun _ => fun
  | [d1, d2] => { results := [.lit (.bool true)], args := [d1, d2] }
  | _ => none }
def fogMoreRow : OpenClaim := { program := "ytpbpcplboikpcaagreat", sum := "d530e33f395570164127011cf03a566bbb7137e3795f9a8fe97af84a7229387d", func := "laurel/laurellaw05.FogMore", spec := "fogMore", inPlace := ["slices.overlaps[int]"], unfollowed := true, recurses := true, plainKeys := false, apart := false }
def FogMoreSaid : Prop := fogMoreRow.holds Tryz.pinned (OpenSpec.ofChange fogMoreSpec)

/-- ITS FALSE NEIGHBOUR: 'it returns false'. Refute it at one input. -/
def fogMoreWrong : ChangeSpec := { name := "fogMore", fn := fun _ => fun
  | [d1, d2] => { results := [.lit (.bool false)], args := [d1, d2] }
  | _ => none }
def FogMoreWrongFalsely : Prop := fogMoreRow.holds Tryz.pinned (OpenSpec.ofChange fogMoreWrong)

/- THE SECOND FORM. 'bulk': how many values and letters a reading holds, each counted each time it is reached (what is shared counts as often as it is met; a slice's spare places count too). A statement '..UptoSaid' is the law's where the arguments, and the package variables that the reading takes, are together of bulk at most 1048576: NARROWER than '..Said'. Prove '..Said' where nothing that the law and all that it calls make is longer than what came in: it says more and counts as full. Else prove '..UptoSaid'. A law counts once. -/
mutual
def uptoBulk {H : Type} : DataW H → Nat
  | .lit (.string bytes) => bytes.length + 1
  | .lit _ => 1
  | .nil => 1
  | .ptr d => uptoBulk d + 1
  | .slice elems spare => uptoBulkAll elems + uptoBulkAll spare + 1
  | .agg parts => uptoBulkAll parts + 1
  | .iface _ d => uptoBulk d + 1
  | .map entries => uptoBulkEntries entries + 1
  | .held _ => 1
def uptoBulkAll {H : Type} : List (DataW H) → Nat
  | [] => 0
  | d :: r => uptoBulk d + uptoBulkAll r
def uptoBulkEntries {H : Type} : List (Lit × DataW H) → Nat
  | [] => 0
  | x :: r => uptoBulkEntry x + uptoBulkEntries r
def uptoBulkEntry {H : Type} : Lit × DataW H → Nat
  | (.string bytes, d) => bytes.length + uptoBulk d + 1
  | (_, d) => uptoBulk d + 1
 end
def uptoSmall : (H : Type) → List (DataW H) → Bool := fun _ ds => decide (uptoBulkAll ds ≤ 1048576)
def OpenSpec.upto (s : _root_.Go.ChangeSpec) : _root_.Go.OpenSpec := { _root_.Go.OpenSpec.ofChange s with cond := some uptoSmall }

/-- 'laurellaw05.FogChecks', WHERE WHAT IT READS IS OF BULK AT MOST 1048576: true; the input reads as it did. -/
def fogChecksUptoRow : OpenClaim := { program := "ytpbpcplboikpcaagreat", sum := "d530e33f395570164127011cf03a566bbb7137e3795f9a8fe97af84a7229387d", func := "laurel/laurellaw05.FogChecks", spec := "fogChecks", unfollowed := true, recurses := true, plainKeys := false, apart := false, narrowed := true }
def FogChecksUptoSaid : Prop := fogChecksUptoRow.holds Tryz.pinned (OpenSpec.upto fogChecksSpec)

/-- 'laurellaw05.FogReports', WHERE WHAT IT READS IS OF BULK AT MOST 1048576: true; the input reads as it did. -/
def fogReportsUptoRow : OpenClaim := { program := "ytpbpcplboikpcaagreat", sum := "d530e33f395570164127011cf03a566bbb7137e3795f9a8fe97af84a7229387d", func := "laurel/laurellaw05.FogReports", spec := "fogReports", unfollowed := true, recurses := true, plainKeys := false, apart := false, narrowed := true }
def FogReportsUptoSaid : Prop := fogReportsUptoRow.holds Tryz.pinned (OpenSpec.upto fogReportsSpec)

/-- 'laurellaw05.FogDecides', WHERE WHAT IT READS IS OF BULK AT MOST 1048576: true; the input reads as it did. -/
def fogDecidesUptoRow : OpenClaim := { program := "ytpbpcplboikpcaagreat", sum := "d530e33f395570164127011cf03a566bbb7137e3795f9a8fe97af84a7229387d", func := "laurel/laurellaw05.FogDecides", spec := "fogDecides", unfollowed := true, recurses := true, plainKeys := false, apart := false, narrowed := true }
def FogDecidesUptoSaid : Prop := fogDecidesUptoRow.holds Tryz.pinned (OpenSpec.upto fogDecidesSpec)

/-- 'laurellaw05.FogWalks', WHERE WHAT IT READS IS OF BULK AT MOST 1048576: true; the input reads as it did. -/
def fogWalksUptoRow : OpenClaim := { program := "ytpbpcplboikpcaagreat", sum := "d530e33f395570164127011cf03a566bbb7137e3795f9a8fe97af84a7229387d", func := "laurel/laurellaw05.FogWalks", spec := "fogWalks", unfollowed := true, recurses := true, plainKeys := false, apart := false, narrowed := true }
def FogWalksUptoSaid : Prop := fogWalksUptoRow.holds Tryz.pinned (OpenSpec.upto fogWalksSpec)

/-- 'laurellaw05.FogPlaces', WHERE WHAT IT READS IS OF BULK AT MOST 1048576: true; the input reads as it did. -/
def fogPlacesUptoRow : OpenClaim := { program := "ytpbpcplboikpcaagreat", sum := "d530e33f395570164127011cf03a566bbb7137e3795f9a8fe97af84a7229387d", func := "laurel/laurellaw05.FogPlaces", spec := "fogPlaces", unfollowed := true, recurses := true, plainKeys := false, apart := false, narrowed := true }
def FogPlacesUptoSaid : Prop := fogPlacesUptoRow.holds Tryz.pinned (OpenSpec.upto fogPlacesSpec)

/-- 'laurellaw05.FogMet', WHERE WHAT IT READS IS OF BULK AT MOST 1048576: true; the input reads as it did. -/
def fogMetUptoRow : OpenClaim := { program := "ytpbpcplboikpcaagreat", sum := "d530e33f395570164127011cf03a566bbb7137e3795f9a8fe97af84a7229387d", func := "laurel/laurellaw05.FogMet", spec := "fogMet", inPlace := ["slices.overlaps[int]"], unfollowed := true, recurses := true, plainKeys := false, apart := false, narrowed := true }
def FogMetUptoSaid : Prop := fogMetUptoRow.holds Tryz.pinned (OpenSpec.upto fogMetSpec)

/-- 'laurellaw05.FogClashed', WHERE WHAT IT READS IS OF BULK AT MOST 1048576: true; the input reads as it did. -/
def fogClashedUptoRow : OpenClaim := { program := "ytpbpcplboikpcaagreat", sum := "d530e33f395570164127011cf03a566bbb7137e3795f9a8fe97af84a7229387d", func := "laurel/laurellaw05.FogClashed", spec := "fogClashed", inPlace := ["slices.overlaps[int]"], unfollowed := true, recurses := true, plainKeys := false, apart := false, narrowed := true }
def FogClashedUptoSaid : Prop := fogClashedUptoRow.holds Tryz.pinned (OpenSpec.upto fogClashedSpec)

/-- 'laurellaw05.FogStill', WHERE WHAT IT READS IS OF BULK AT MOST 1048576: true; the input reads as it did. -/
def fogStillUptoRow : OpenClaim := { program := "ytpbpcplboikpcaagreat", sum := "d530e33f395570164127011cf03a566bbb7137e3795f9a8fe97af84a7229387d", func := "laurel/laurellaw05.FogStill", spec := "fogStill", inPlace := ["slices.overlaps[int]"], unfollowed := true, recurses := true, plainKeys := false, apart := false, narrowed := true }
def FogStillUptoSaid : Prop := fogStillUptoRow.holds Tryz.pinned (OpenSpec.upto fogStillSpec)

/-- 'laurellaw05.FogFound', WHERE WHAT IT READS IS OF BULK AT MOST 1048576: true; the input reads as it did. -/
def fogFoundUptoRow : OpenClaim := { program := "ytpbpcplboikpcaagreat", sum := "d530e33f395570164127011cf03a566bbb7137e3795f9a8fe97af84a7229387d", func := "laurel/laurellaw05.FogFound", spec := "fogFound", inPlace := ["slices.overlaps[int]"], unfollowed := true, recurses := true, plainKeys := false, apart := false, narrowed := true }
def FogFoundUptoSaid : Prop := fogFoundUptoRow.holds Tryz.pinned (OpenSpec.upto fogFoundSpec)

/-- 'laurellaw05.FogAsked', WHERE WHAT IT READS IS OF BULK AT MOST 1048576: true; the input reads as it did. -/
def fogAskedUptoRow : OpenClaim := { program := "ytpbpcplboikpcaagreat", sum := "d530e33f395570164127011cf03a566bbb7137e3795f9a8fe97af84a7229387d", func := "laurel/laurellaw05.FogAsked", spec := "fogAsked", inPlace := ["slices.overlaps[int]"], unfollowed := true, recurses := true, plainKeys := false, apart := false, narrowed := true }
def FogAskedUptoSaid : Prop := fogAskedUptoRow.holds Tryz.pinned (OpenSpec.upto fogAskedSpec)

/-- 'laurellaw05.FogMore', WHERE WHAT IT READS IS OF BULK AT MOST 1048576: true; the input reads as it did. -/
def fogMoreUptoRow : OpenClaim := { program := "ytpbpcplboikpcaagreat", sum := "d530e33f395570164127011cf03a566bbb7137e3795f9a8fe97af84a7229387d", func := "laurel/laurellaw05.FogMore", spec := "fogMore", inPlace := ["slices.overlaps[int]"], unfollowed := true, recurses := true, plainKeys := false, apart := false, narrowed := true }
def FogMoreUptoSaid : Prop := fogMoreUptoRow.holds Tryz.pinned (OpenSpec.upto fogMoreSpec)

end Rows
end Go.Proofs.YtpbpcplboikpcaaGreat
