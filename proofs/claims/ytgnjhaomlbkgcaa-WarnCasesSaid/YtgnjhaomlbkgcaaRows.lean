/-
  No cell of these rows narrows 'for every input' (looked for: loops, veiled, ifaces, maps, wideKeys, modest, calm, conditions, laid).
  DERIVED. THE GIVEN ROWS OF THIS SEAT. 11 by the template 'for every input the law returns true; each argument reads behind the call as it read before'; 0 by the template 'total and deterministic' (their statements: YtgnjhaomlbkgcaaTotals.lean).
  GIVEN WITH THE SEED: the statements are not yours to turn. If you find one false, say at which input.
  Laid BY PROGRAM, IN A SANDBOX (cutbox-rows.mjs): the forced cells as the released guide's own fill.sh prints them over the translation e4e4064bc10b59f0… (all of the seat's roots in one cut). By AI agents, Wed Nov 11 2026. No macro, syntax, notation, axiom, sorry.
-/
import Derived.Test.YtgnjhaomlbkgcaaChecked
import GoSem.Claim
import GoSem.ClaimJoined
import GoSem.ClaimMapViews
import Derived.JoinedTies
import Derived.KernelRfl
namespace Go.Proofs.Ytgnjhaomlbkgcaa
/- THE CELL 'sum', in the pinned program and in every row, IS THE sha256 OF THE DUMP (.gsa) THAT YtgnjhaomlbkgcaaProg.lean LOADS. Nothing in Lean hashes anything: it is a label: what it is worth is what the hold of that sum in a sandbox is worth. -/
noncomputable def Try.pinned : Pinned := { name := "ytgnjhaomlbkgcaa", sum := "e4e4064bc10b59f06728cb7e83b3b61ab0ed63f22a87dd3f3ee6b4a0445374e5", checked := Try.checked }
namespace Rows
def none {H : Type} : Left H := { results := [], args := [] }

/-- 'laurellaw10.WarnShifted': WHATEVER THE INPUT: true; the input reads as it did. -/
def warnShiftedSpec : ChangeSpec := { name := "warnShifted", fn := fun _ => fun
  | [d1, d2] => { results := [.lit (.bool true)], args := [d1, d2] }
  | _ => none }
def warnShiftedRow : OpenClaim := { program := "ytgnjhaomlbkgcaa", sum := "e4e4064bc10b59f06728cb7e83b3b61ab0ed63f22a87dd3f3ee6b4a0445374e5", func := "laurel/laurellaw10.WarnShifted", spec := "warnShifted", unfollowed := true, recurses := true, plainKeys := false, apart := false }
def WarnShiftedSaid : Prop := warnShiftedRow.holds Try.pinned (OpenSpec.ofChange warnShiftedSpec)

/-- ITS FALSE NEIGHBOUR: 'it returns false'. Refute it at one input. -/
def warnShiftedWrong : ChangeSpec := { name := "warnShifted", fn := fun _ => fun
  | [d1, d2] => { results := [.lit (.bool false)], args := [d1, d2] }
  | _ => none }
def WarnShiftedWrongFalsely : Prop := warnShiftedRow.holds Try.pinned (OpenSpec.ofChange warnShiftedWrong)

/-- 'laurellaw10.WarnRing': WHATEVER THE INPUT: true; the input reads as it did. -/
def warnRingSpec : ChangeSpec := { name := "warnRing", fn := fun _ => fun
  | [d] => { results := [.lit (.bool true)], args := [d] }
  | _ => none }
def warnRingRow : OpenClaim := { program := "ytgnjhaomlbkgcaa", sum := "e4e4064bc10b59f06728cb7e83b3b61ab0ed63f22a87dd3f3ee6b4a0445374e5", func := "laurel/laurellaw10.WarnRing", spec := "warnRing", unfollowed := true, recurses := true, plainKeys := false, apart := false }
def WarnRingSaid : Prop := warnRingRow.holds Try.pinned (OpenSpec.ofChange warnRingSpec)

/-- ITS FALSE NEIGHBOUR: 'it returns false'. Refute it at one input. -/
def warnRingWrong : ChangeSpec := { name := "warnRing", fn := fun _ => fun
  | [d] => { results := [.lit (.bool false)], args := [d] }
  | _ => none }
def WarnRingWrongFalsely : Prop := warnRingRow.holds Try.pinned (OpenSpec.ofChange warnRingWrong)

/-- 'laurellaw10.WarnGaps': WHATEVER THE INPUT: true; the input reads as it did. -/
def warnGapsSpec : ChangeSpec := { name := "warnGaps", fn := fun _ => fun
  | [d1, d2] => { results := [.lit (.bool true)], args := [d1, d2] }
  | _ => none }
def warnGapsRow : OpenClaim := { program := "ytgnjhaomlbkgcaa", sum := "e4e4064bc10b59f06728cb7e83b3b61ab0ed63f22a87dd3f3ee6b4a0445374e5", func := "laurel/laurellaw10.WarnGaps", spec := "warnGaps", unfollowed := true, recurses := true, plainKeys := false, apart := false }
def WarnGapsSaid : Prop := warnGapsRow.holds Try.pinned (OpenSpec.ofChange warnGapsSpec)

/-- ITS FALSE NEIGHBOUR: 'it returns false'. Refute it at one input. -/
def warnGapsWrong : ChangeSpec := { name := "warnGaps", fn := fun _ => fun
  | [d1, d2] => { results := [.lit (.bool false)], args := [d1, d2] }
  | _ => none }
def WarnGapsWrongFalsely : Prop := warnGapsRow.holds Try.pinned (OpenSpec.ofChange warnGapsWrong)

/-- 'laurellaw10.WarnRows': WHATEVER THE INPUT: true; the input reads as it did. -/
def warnRowsSpec : ChangeSpec := { name := "warnRows", fn := fun _ => fun
  | [d1, d2, d3, d4] => { results := [.lit (.bool true)], args := [d1, d2, d3, d4] }
  | _ => none }
def warnRowsRow : OpenClaim := { program := "ytgnjhaomlbkgcaa", sum := "e4e4064bc10b59f06728cb7e83b3b61ab0ed63f22a87dd3f3ee6b4a0445374e5", func := "laurel/laurellaw10.WarnRows", spec := "warnRows", unfollowed := true, recurses := true, plainKeys := false, apart := false }
def WarnRowsSaid : Prop := warnRowsRow.holds Try.pinned (OpenSpec.ofChange warnRowsSpec)

/-- ITS FALSE NEIGHBOUR: 'it returns false'. Refute it at one input. -/
def warnRowsWrong : ChangeSpec := { name := "warnRows", fn := fun _ => fun
  | [d1, d2, d3, d4] => { results := [.lit (.bool false)], args := [d1, d2, d3, d4] }
  | _ => none }
def WarnRowsWrongFalsely : Prop := warnRowsRow.holds Try.pinned (OpenSpec.ofChange warnRowsWrong)

/-- 'laurellaw10.WarnTold': WHATEVER THE INPUT: true; the input reads as it did. -/
def warnToldSpec : ChangeSpec := { name := "warnTold", fn := fun _ => fun
  | [d1, d2] => { results := [.lit (.bool true)], args := [d1, d2] }
  | _ => none }
def warnToldRow : OpenClaim := { program := "ytgnjhaomlbkgcaa", sum := "e4e4064bc10b59f06728cb7e83b3b61ab0ed63f22a87dd3f3ee6b4a0445374e5", func := "laurel/laurellaw10.WarnTold", spec := "warnTold", unfollowed := true, recurses := true, plainKeys := false, apart := false }
def WarnToldSaid : Prop := warnToldRow.holds Try.pinned (OpenSpec.ofChange warnToldSpec)

/-- ITS FALSE NEIGHBOUR: 'it returns false'. Refute it at one input. -/
def warnToldWrong : ChangeSpec := { name := "warnTold", fn := fun _ => fun
  | [d1, d2] => { results := [.lit (.bool false)], args := [d1, d2] }
  | _ => none }
def WarnToldWrongFalsely : Prop := warnToldRow.holds Try.pinned (OpenSpec.ofChange warnToldWrong)

/-- 'laurellaw10.WarnWho': WHATEVER THE INPUT: true; the input reads as it did. -/
def warnWhoSpec : ChangeSpec := { name := "warnWho", fn := fun _ => fun
  | [d1, d2, d3, d4, d5] => { results := [.lit (.bool true)], args := [d1, d2, d3, d4, d5] }
  | _ => none }
def warnWhoRow : OpenClaim := { program := "ytgnjhaomlbkgcaa", sum := "e4e4064bc10b59f06728cb7e83b3b61ab0ed63f22a87dd3f3ee6b4a0445374e5", func := "laurel/laurellaw10.WarnWho", spec := "warnWho", unfollowed := true, recurses := true, plainKeys := false, apart := false }
def WarnWhoSaid : Prop := warnWhoRow.holds Try.pinned (OpenSpec.ofChange warnWhoSpec)

/-- ITS FALSE NEIGHBOUR: 'it returns false'. Refute it at one input. -/
def warnWhoWrong : ChangeSpec := { name := "warnWho", fn := fun _ => fun
  | [d1, d2, d3, d4, d5] => { results := [.lit (.bool false)], args := [d1, d2, d3, d4, d5] }
  | _ => none }
def WarnWhoWrongFalsely : Prop := warnWhoRow.holds Try.pinned (OpenSpec.ofChange warnWhoWrong)

/-- 'laurellaw10.WarnTruths': WHATEVER THE INPUT: true; the input reads as it did. -/
def warnTruthsSpec : ChangeSpec := { name := "warnTruths", fn := fun _ => fun
  | [d1, d2] => { results := [.lit (.bool true)], args := [d1, d2] }
  | _ => none }
def warnTruthsRow : OpenClaim := { program := "ytgnjhaomlbkgcaa", sum := "e4e4064bc10b59f06728cb7e83b3b61ab0ed63f22a87dd3f3ee6b4a0445374e5", func := "laurel/laurellaw10.WarnTruths", spec := "warnTruths", unfollowed := true, recurses := true, plainKeys := false, apart := false }
def WarnTruthsSaid : Prop := warnTruthsRow.holds Try.pinned (OpenSpec.ofChange warnTruthsSpec)

/-- ITS FALSE NEIGHBOUR: 'it returns false'. Refute it at one input. -/
def warnTruthsWrong : ChangeSpec := { name := "warnTruths", fn := fun _ => fun
  | [d1, d2] => { results := [.lit (.bool false)], args := [d1, d2] }
  | _ => none }
def WarnTruthsWrongFalsely : Prop := warnTruthsRow.holds Try.pinned (OpenSpec.ofChange warnTruthsWrong)

/-- 'laurellaw10.WarnCases': WHATEVER THE INPUT: true; the input reads as it did. -/
def warnCasesSpec : ChangeSpec := { name := "warnCases", fn := fun _ => fun
  | [d1, d2, d3] => { results := [.lit (.bool true)], args := [d1, d2, d3] }
  | _ => none }
def warnCasesRow : OpenClaim := { program := "ytgnjhaomlbkgcaa", sum := "e4e4064bc10b59f06728cb7e83b3b61ab0ed63f22a87dd3f3ee6b4a0445374e5", func := "laurel/laurellaw10.WarnCases", spec := "warnCases", unfollowed := true, recurses := true, plainKeys := false, apart := false }
def WarnCasesSaid : Prop := warnCasesRow.holds Try.pinned (OpenSpec.ofChange warnCasesSpec)

/-- ITS FALSE NEIGHBOUR: 'it returns false'. Refute it at one input. -/
def warnCasesWrong : ChangeSpec := { name := "warnCases", fn := fun _ => fun
  | [d1, d2, d3] => { results := [.lit (.bool false)], args := [d1, d2, d3] }
  | _ => none }
def WarnCasesWrongFalsely : Prop := warnCasesRow.holds Try.pinned (OpenSpec.ofChange warnCasesWrong)

/-- 'laurellaw10.WarnLiars': WHATEVER THE INPUT: true; the input reads as it did. -/
def warnLiarsSpec : ChangeSpec := { name := "warnLiars", fn := fun _ => fun
  | [d] => { results := [.lit (.bool true)], args := [d] }
  | _ => none }
def warnLiarsRow : OpenClaim := { program := "ytgnjhaomlbkgcaa", sum := "e4e4064bc10b59f06728cb7e83b3b61ab0ed63f22a87dd3f3ee6b4a0445374e5", func := "laurel/laurellaw10.WarnLiars", spec := "warnLiars", unfollowed := true, recurses := true, plainKeys := false, apart := false }
def WarnLiarsSaid : Prop := warnLiarsRow.holds Try.pinned (OpenSpec.ofChange warnLiarsSpec)

/-- ITS FALSE NEIGHBOUR: 'it returns false'. Refute it at one input. -/
def warnLiarsWrong : ChangeSpec := { name := "warnLiars", fn := fun _ => fun
  | [d] => { results := [.lit (.bool false)], args := [d] }
  | _ => none }
def WarnLiarsWrongFalsely : Prop := warnLiarsRow.holds Try.pinned (OpenSpec.ofChange warnLiarsWrong)

/-- 'laurellaw10.WarnDecided': WHATEVER THE INPUT: true; the input reads as it did. -/
def warnDecidedSpec : ChangeSpec := { name := "warnDecided", fn := fun _ => fun
  | [d] => { results := [.lit (.bool true)], args := [d] }
  | _ => none }
def warnDecidedRow : OpenClaim := { program := "ytgnjhaomlbkgcaa", sum := "e4e4064bc10b59f06728cb7e83b3b61ab0ed63f22a87dd3f3ee6b4a0445374e5", func := "laurel/laurellaw10.WarnDecided", spec := "warnDecided", unfollowed := true, recurses := true, plainKeys := false, apart := false }
def WarnDecidedSaid : Prop := warnDecidedRow.holds Try.pinned (OpenSpec.ofChange warnDecidedSpec)

/-- ITS FALSE NEIGHBOUR: 'it returns false'. Refute it at one input. -/
def warnDecidedWrong : ChangeSpec := { name := "warnDecided", fn := fun _ => fun
  | [d] => { results := [.lit (.bool false)], args := [d] }
  | _ => none }
def WarnDecidedWrongFalsely : Prop := warnDecidedRow.holds Try.pinned (OpenSpec.ofChange warnDecidedWrong)

/-- 'laurellaw10.WarnNeeded': WHATEVER THE INPUT: true; the input reads as it did. -/
def warnNeededSpec : ChangeSpec := { name := "warnNeeded", fn := fun _ => fun
  | [d1, d2, d3] => { results := [.lit (.bool true)], args := [d1, d2, d3] }
  | _ => none }
def warnNeededRow : OpenClaim := { program := "ytgnjhaomlbkgcaa", sum := "e4e4064bc10b59f06728cb7e83b3b61ab0ed63f22a87dd3f3ee6b4a0445374e5", func := "laurel/laurellaw10.WarnNeeded", spec := "warnNeeded", unfollowed := true, recurses := true, plainKeys := false, apart := false }
def WarnNeededSaid : Prop := warnNeededRow.holds Try.pinned (OpenSpec.ofChange warnNeededSpec)

/-- ITS FALSE NEIGHBOUR: 'it returns false'. Refute it at one input. -/
def warnNeededWrong : ChangeSpec := { name := "warnNeeded", fn := fun _ => fun
  | [d1, d2, d3] => { results := [.lit (.bool false)], args := [d1, d2, d3] }
  | _ => none }
def WarnNeededWrongFalsely : Prop := warnNeededRow.holds Try.pinned (OpenSpec.ofChange warnNeededWrong)

/- THE SECOND FORM. 'bulk': how many values and letters a reading holds, each counted each time it is reached (what is shared counts as often as it is met; a slice's spare places count too). A statement '..UptoSaid' is the law's where the arguments, and the package variables that the reading takes, are together of bulk at most 1048576: NARROWER than '..Said'. Prove '..Said' where nothing that the law and all that it calls make is longer than what came in: it says more and counts as full. Else prove '..UptoSaid'. A law counts once. -/
mutual
def uptoBulk {H : Type} : DataW H → Nat
  | .lit (.string bytes) => bytes.length + 1
  | .lit _ => 1
  | .nil => 1
  | .ptr d => uptoBulk d + 1
  | .slice elems spare => uptoBulkAll elems + uptoBulkAll spare + 1
  | .agg parts => uptoBulkAll parts + 1
  | .iface _ d => uptoBulk d + 1
  | .map entries => uptoBulkEntries entries + 1
  | .held _ => 1
def uptoBulkAll {H : Type} : List (DataW H) → Nat
  | [] => 0
  | d :: r => uptoBulk d + uptoBulkAll r
def uptoBulkEntries {H : Type} : List (Lit × DataW H) → Nat
  | [] => 0
  | x :: r => uptoBulkEntry x + uptoBulkEntries r
def uptoBulkEntry {H : Type} : Lit × DataW H → Nat
  | (.string bytes, d) => bytes.length + uptoBulk d + 1
  | (_, d) => uptoBulk d + 1
 end
def uptoSmall : (H : Type) → List (DataW H) → Bool := fun _ ds => decide (uptoBulkAll ds ≤ 1048576)
def OpenSpec.upto (s : _root_.Go.ChangeSpec) : _root_.Go.OpenSpec := { _root_.Go.OpenSpec.ofChange s with cond := some uptoSmall }

/-- 'laurellaw10.WarnShifted', WHERE WHAT IT READS IS OF BULK AT MOST 1048576: true; the input reads as it did. -/
def warnShiftedUptoRow : OpenClaim := { program := "ytgnjhaomlbkgcaa", sum := "e4e4064bc10b59f06728cb7e83b3b61ab0ed63f22a87dd3f3ee6b4a0445374e5", func := "laurel/laurellaw10.WarnShifted", spec := "warnShifted", unfollowed := true, recurses := true, plainKeys := false, apart := false, narrowed := true }
def WarnShiftedUptoSaid : Prop := warnShiftedUptoRow.holds Try.pinned (OpenSpec.upto warnShiftedSpec)

/-- 'laurellaw10.WarnRing', WHERE WHAT IT READS IS OF BULK AT MOST 1048576: true; the input reads as it did. -/
def warnRingUptoRow : OpenClaim := { program := "ytgnjhaomlbkgcaa", sum := "e4e4064bc10b59f06728cb7e83b3b61ab0ed63f22a87dd3f3ee6b4a0445374e5", func := "laurel/laurellaw10.WarnRing", spec := "warnRing", unfollowed := true, recurses := true, plainKeys := false, apart := false, narrowed := true }
def WarnRingUptoSaid : Prop := warnRingUptoRow.holds Try.pinned (OpenSpec.upto warnRingSpec)

/-- 'laurellaw10.WarnGaps', WHERE WHAT IT READS IS OF BULK AT MOST 1048576: true; the input reads as it did. -/
def warnGapsUptoRow : OpenClaim := { program := "ytgnjhaomlbkgcaa", sum := "e4e4064bc10b59f06728cb7e83b3b61ab0ed63f22a87dd3f3ee6b4a0445374e5", func := "laurel/laurellaw10.WarnGaps", spec := "warnGaps", unfollowed := true, recurses := true, plainKeys := false, apart := false, narrowed := true }
def WarnGapsUptoSaid : Prop := warnGapsUptoRow.holds Try.pinned (OpenSpec.upto warnGapsSpec)

/-- 'laurellaw10.WarnRows', WHERE WHAT IT READS IS OF BULK AT MOST 1048576: true; the input reads as it did. -/
def warnRowsUptoRow : OpenClaim := { program := "ytgnjhaomlbkgcaa", sum := "e4e4064bc10b59f06728cb7e83b3b61ab0ed63f22a87dd3f3ee6b4a0445374e5", func := "laurel/laurellaw10.WarnRows", spec := "warnRows", unfollowed := true, recurses := true, plainKeys := false, apart := false, narrowed := true }
def WarnRowsUptoSaid : Prop := warnRowsUptoRow.holds Try.pinned (OpenSpec.upto warnRowsSpec)

/-- 'laurellaw10.WarnTold', WHERE WHAT IT READS IS OF BULK AT MOST 1048576: true; the input reads as it did. -/
def warnToldUptoRow : OpenClaim := { program := "ytgnjhaomlbkgcaa", sum := "e4e4064bc10b59f06728cb7e83b3b61ab0ed63f22a87dd3f3ee6b4a0445374e5", func := "laurel/laurellaw10.WarnTold", spec := "warnTold", unfollowed := true, recurses := true, plainKeys := false, apart := false, narrowed := true }
def WarnToldUptoSaid : Prop := warnToldUptoRow.holds Try.pinned (OpenSpec.upto warnToldSpec)

/-- 'laurellaw10.WarnWho', WHERE WHAT IT READS IS OF BULK AT MOST 1048576: true; the input reads as it did. -/
def warnWhoUptoRow : OpenClaim := { program := "ytgnjhaomlbkgcaa", sum := "e4e4064bc10b59f06728cb7e83b3b61ab0ed63f22a87dd3f3ee6b4a0445374e5", func := "laurel/laurellaw10.WarnWho", spec := "warnWho", unfollowed := true, recurses := true, plainKeys := false, apart := false, narrowed := true }
def WarnWhoUptoSaid : Prop := warnWhoUptoRow.holds Try.pinned (OpenSpec.upto warnWhoSpec)

/-- 'laurellaw10.WarnTruths', WHERE WHAT IT READS IS OF BULK AT MOST 1048576: true; the input reads as it did. -/
def warnTruthsUptoRow : OpenClaim := { program := "ytgnjhaomlbkgcaa", sum := "e4e4064bc10b59f06728cb7e83b3b61ab0ed63f22a87dd3f3ee6b4a0445374e5", func := "laurel/laurellaw10.WarnTruths", spec := "warnTruths", unfollowed := true, recurses := true, plainKeys := false, apart := false, narrowed := true }
def WarnTruthsUptoSaid : Prop := warnTruthsUptoRow.holds Try.pinned (OpenSpec.upto warnTruthsSpec)

/-- 'laurellaw10.WarnCases', WHERE WHAT IT READS IS OF BULK AT MOST 1048576: true; the input reads as it did. -/
def warnCasesUptoRow : OpenClaim := { program := "ytgnjhaomlbkgcaa", sum := "e4e4064bc10b59f06728cb7e83b3b61ab0ed63f22a87dd3f3ee6b4a0445374e5", func := "laurel/laurellaw10.WarnCases", spec := "warnCases", unfollowed := true, recurses := true, plainKeys := false, apart := false, narrowed := true }
def WarnCasesUptoSaid : Prop := warnCasesUptoRow.holds Try.pinned (OpenSpec.upto warnCasesSpec)

/-- 'laurellaw10.WarnLiars', WHERE WHAT IT READS IS OF BULK AT MOST 1048576: true; the input reads as it did. -/
def warnLiarsUptoRow : OpenClaim := { program := "ytgnjhaomlbkgcaa", sum := "e4e4064bc10b59f06728cb7e83b3b61ab0ed63f22a87dd3f3ee6b4a0445374e5", func := "laurel/laurellaw10.WarnLiars", spec := "warnLiars", unfollowed := true, recurses := true, plainKeys := false, apart := false, narrowed := true }
def WarnLiarsUptoSaid : Prop := warnLiarsUptoRow.holds Try.pinned (OpenSpec.upto warnLiarsSpec)

/-- 'laurellaw10.WarnDecided', WHERE WHAT IT READS IS OF BULK AT MOST 1048576: true; the input reads as it did. -/
def warnDecidedUptoRow : OpenClaim := { program := "ytgnjhaomlbkgcaa", sum := "e4e4064bc10b59f06728cb7e83b3b61ab0ed63f22a87dd3f3ee6b4a0445374e5", func := "laurel/laurellaw10.WarnDecided", spec := "warnDecided", unfollowed := true, recurses := true, plainKeys := false, apart := false, narrowed := true }
def WarnDecidedUptoSaid : Prop := warnDecidedUptoRow.holds Try.pinned (OpenSpec.upto warnDecidedSpec)

/-- 'laurellaw10.WarnNeeded', WHERE WHAT IT READS IS OF BULK AT MOST 1048576: true; the input reads as it did. -/
def warnNeededUptoRow : OpenClaim := { program := "ytgnjhaomlbkgcaa", sum := "e4e4064bc10b59f06728cb7e83b3b61ab0ed63f22a87dd3f3ee6b4a0445374e5", func := "laurel/laurellaw10.WarnNeeded", spec := "warnNeeded", unfollowed := true, recurses := true, plainKeys := false, apart := false, narrowed := true }
def WarnNeededUptoSaid : Prop := warnNeededUptoRow.holds Try.pinned (OpenSpec.upto warnNeededSpec)

end Rows
end Go.Proofs.Ytgnjhaomlbkgcaa
