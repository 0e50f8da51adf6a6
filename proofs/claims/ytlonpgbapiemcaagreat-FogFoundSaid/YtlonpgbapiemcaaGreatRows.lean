/-
  No cell of these rows narrows 'for every input' (looked for: loops, veiled, ifaces, maps, wideKeys, modest, calm, conditions, laid).
  DERIVED. THE GIVEN ROWS OF THIS SEAT. 4 by the template 'for every input the law returns true; each argument reads behind the call as it read before'; 0 by the template 'total and deterministic' (their statements: YtlonpgbapiemcaaGreatTotals.lean).
  GIVEN WITH THE SEED: the statements are not yours to turn. If you find one false, say at which input.
  Laid BY PROGRAM, IN A SANDBOX (cutbox-rows.mjs): the forced cells as the released guide's own fill.sh prints them over the translation 1274fb31e4a57043… (all of the seat's roots in one cut). By AI agents, Wed Nov 11 2026. No macro, syntax, notation, axiom, sorry.
-/
import Derived.Test.YtlonpgbapiemcaaGreatChecked
import GoSem.Claim
import GoSem.ClaimJoined
import GoSem.ClaimMapViews
import Derived.JoinedTies
import Derived.KernelRfl
namespace Go.Proofs.YtlonpgbapiemcaaGreat
/- THE CELL 'sum', in the pinned program and in every row, IS THE sha256 OF THE DUMP (.gsa) THAT YtlonpgbapiemcaaGreatProg.lean LOADS. Nothing in Lean hashes anything: it is a label: what it is worth is what the hold of that sum in a sandbox is worth. -/
noncomputable def Tryz.pinned : Pinned := { name := "ytlonpgbapiemcaagreat", sum := "1274fb31e4a570435e40bf81e8fd378a38b91b692f754cca6a96ddf38f8aaea6", checked := Tryz.checked }
namespace Rows
def none {H : Type} : Left H := { results := [], args := [] }

/-- 'laurellaw10.WarnHorns': WHATEVER THE INPUT: true; the input reads as it did. -/
def warnHornsSpec : ChangeSpec := { name := "warnHorns", fn := fun _ => fun
  | [d1, d2, d3] => { results := [.lit (.bool true)], args := [d1, d2, d3] }
  | _ => none }
def warnHornsRow : OpenClaim := { program := "ytlonpgbapiemcaagreat", sum := "1274fb31e4a570435e40bf81e8fd378a38b91b692f754cca6a96ddf38f8aaea6", func := "laurel/laurellaw10.WarnHorns", spec := "warnHorns", unfollowed := true, recurses := true, plainKeys := false, apart := false }
def WarnHornsSaid : Prop := warnHornsRow.holds Tryz.pinned (OpenSpec.ofChange warnHornsSpec)

/-- ITS FALSE NEIGHBOUR: 'it returns false'. Refute it at one input. -/
def warnHornsWrong : ChangeSpec := { name := "warnHorns", fn := fun _ => fun
  | [d1, d2, d3] => { results := [.lit (.bool false)], args := [d1, d2, d3] }
  | _ => none }
def WarnHornsWrongFalsely : Prop := warnHornsRow.holds Tryz.pinned (OpenSpec.ofChange warnHornsWrong)

/-- 'laurellaw05.FogFound': WHATEVER THE INPUT: true; the input reads as it did. -/
def fogFoundSpec : ChangeSpec := { name := "fogFound", fn := fun _ => fun
  | [d1, d2, d3, d4] => { results := [.lit (.bool true)], args := [d1, d2, d3, d4] }
  | _ => none }
def fogFoundRow : OpenClaim := { program := "ytlonpgbapiemcaagreat", sum := "1274fb31e4a570435e40bf81e8fd378a38b91b692f754cca6a96ddf38f8aaea6", func := "laurel/laurellaw05.FogFound", spec := "fogFound", inPlace := ["slices.overlaps[int]"], unfollowed := true, recurses := true, plainKeys := false, apart := false }
def FogFoundSaid : Prop := fogFoundRow.holds Tryz.pinned (OpenSpec.ofChange fogFoundSpec)

/-- ITS FALSE NEIGHBOUR: 'it returns false'. Refute it at one input. -/
def fogFoundWrong : ChangeSpec := { name := "fogFound", fn := fun _ => fun
  | [d1, d2, d3, d4] => { results := [.lit (.bool false)], args := [d1, d2, d3, d4] }
  | _ => none }
def FogFoundWrongFalsely : Prop := fogFoundRow.holds Tryz.pinned (OpenSpec.ofChange fogFoundWrong)

/-- 'laurellaw05.FogSmall': WHATEVER THE INPUT: true; the input reads as it did. -/
def fogSmallSpec : ChangeSpec := { name := "fogSmall", fn := fun _ => fun
  | [] => { results := [.lit (.bool true)], args := [] }
  | _ => none }
def fogSmallRow : OpenClaim := { program := "ytlonpgbapiemcaagreat", sum := "1274fb31e4a570435e40bf81e8fd378a38b91b692f754cca6a96ddf38f8aaea6", func := "laurel/laurellaw05.FogSmall", spec := "fogSmall", unfollowed := true, recurses := true, plainKeys := false, apart := false }
def FogSmallSaid : Prop := fogSmallRow.holds Tryz.pinned (OpenSpec.ofChange fogSmallSpec)

/-- ITS FALSE NEIGHBOUR: 'it returns false'. Refute it at one input. -/
def fogSmallWrong : ChangeSpec := { name := "fogSmall", fn := fun _ => fun
  | [] => { results := [.lit (.bool false)], args := [] }
  | _ => none }
def FogSmallWrongFalsely : Prop := fogSmallRow.holds Tryz.pinned (OpenSpec.ofChange fogSmallWrong)

/-- 'laurellaw05.FogNamed': WHATEVER THE INPUT: true; the input reads as it did. -/
def fogNamedSpec : ChangeSpec := { name := "fogNamed", fn := fun _ => fun
  | [d1, d2, d3] => { results := [.lit (.bool true)], args := [d1, d2, d3] }
  | _ => none }
def fogNamedRow : OpenClaim := { program := "ytlonpgbapiemcaagreat", sum := "1274fb31e4a570435e40bf81e8fd378a38b91b692f754cca6a96ddf38f8aaea6", func := "laurel/laurellaw05.FogNamed", spec := "fogNamed", inPlace := ["slices.overlaps[int]"], unfollowed := true, recurses := true, plainKeys := false, apart := false }
def FogNamedSaid : Prop := fogNamedRow.holds Tryz.pinned (OpenSpec.ofChange fogNamedSpec)

/-- ITS FALSE NEIGHBOUR: 'it returns false'. Refute it at one input. -/
def fogNamedWrong : ChangeSpec := { name := "fogNamed", fn := fun _ => fun
  | [d1, d2, d3] => { results := [.lit (.bool false)], args := [d1, d2, d3] }
  | _ => none }
def FogNamedWrongFalsely : Prop := fogNamedRow.holds Tryz.pinned (OpenSpec.ofChange fogNamedWrong)

/- THE SECOND FORM. 'bulk': how many values and letters a reading holds, each counted each time it is reached (what is shared counts as often as it is met; a slice's spare places count too). A statement '..UptoSaid' is the law's where the arguments, and the package variables that the reading takes, are together of bulk at most 1048576: NARROWER than '..Said'. Prove '..Said' where nothing that the law and all that it calls make is longer than what came in: it says more and counts as full. Else prove '..UptoSaid'. A law counts once. -/
mutual
def uptoBulk {H : Type} : DataW H → Nat
  | .lit (.string bytes) => bytes.length + 1
  | .lit _ => 1
  | .nil => 1
  | .ptr d => uptoBulk d + 1
  | .slice elems spare => uptoBulkAll elems + uptoBulkAll spare + 1
  | .agg parts => uptoBulkAll parts + 1
  | .iface _ d => uptoBulk d + 1
  | .map entries => uptoBulkEntries entries + 1
  | .held _ => 1
def uptoBulkAll {H : Type} : List (DataW H) → Nat
  | [] => 0
  | d :: r => uptoBulk d + uptoBulkAll r
def uptoBulkEntries {H : Type} : List (Lit × DataW H) → Nat
  | [] => 0
  | x :: r => uptoBulkEntry x + uptoBulkEntries r
def uptoBulkEntry {H : Type} : Lit × DataW H → Nat
  | (.string bytes, d) => bytes.length + uptoBulk d + 1
  | (_, d) => uptoBulk d + 1
 end
def uptoSmall : (H : Type) → List (DataW H) → Bool := fun _ ds => decide (uptoBulkAll ds ≤ 1048576)
def OpenSpec.upto (s : _root_.Go.ChangeSpec) : _root_.Go.OpenSpec := { _root_.Go.OpenSpec.ofChange s with cond := some uptoSmall }

/-- 'laurellaw10.WarnHorns', WHERE WHAT IT READS IS OF BULK AT MOST 1048576: true; the input reads as it did. -/
def warnHornsUptoRow : OpenClaim := { program := "ytlonpgbapiemcaagreat", sum := "1274fb31e4a570435e40bf81e8fd378a38b91b692f754cca6a96ddf38f8aaea6", func := "laurel/laurellaw10.WarnHorns", spec := "warnHorns", unfollowed := true, recurses := true, plainKeys := false, apart := false, narrowed := true }
def WarnHornsUptoSaid : Prop := warnHornsUptoRow.holds Tryz.pinned (OpenSpec.upto warnHornsSpec)

/-- 'laurellaw05.FogFound', WHERE WHAT IT READS IS OF BULK AT MOST 1048576: true; the input reads as it did. -/
def fogFoundUptoRow : OpenClaim := { program := "ytlonpgbapiemcaagreat", sum := "1274fb31e4a570435e40bf81e8fd378a38b91b692f754cca6a96ddf38f8aaea6", func := "laurel/laurellaw05.FogFound", spec := "fogFound", inPlace := ["slices.overlaps[int]"], unfollowed := true, recurses := true, plainKeys := false, apart := false, narrowed := true }
def FogFoundUptoSaid : Prop := fogFoundUptoRow.holds Tryz.pinned (OpenSpec.upto fogFoundSpec)

/-- 'laurellaw05.FogSmall', WHERE WHAT IT READS IS OF BULK AT MOST 1048576: true; the input reads as it did. -/
def fogSmallUptoRow : OpenClaim := { program := "ytlonpgbapiemcaagreat", sum := "1274fb31e4a570435e40bf81e8fd378a38b91b692f754cca6a96ddf38f8aaea6", func := "laurel/laurellaw05.FogSmall", spec := "fogSmall", unfollowed := true, recurses := true, plainKeys := false, apart := false, narrowed := true }
def FogSmallUptoSaid : Prop := fogSmallUptoRow.holds Tryz.pinned (OpenSpec.upto fogSmallSpec)

/-- 'laurellaw05.FogNamed', WHERE WHAT IT READS IS OF BULK AT MOST 1048576: true; the input reads as it did. -/
def fogNamedUptoRow : OpenClaim := { program := "ytlonpgbapiemcaagreat", sum := "1274fb31e4a570435e40bf81e8fd378a38b91b692f754cca6a96ddf38f8aaea6", func := "laurel/laurellaw05.FogNamed", spec := "fogNamed", inPlace := ["slices.overlaps[int]"], unfollowed := true, recurses := true, plainKeys := false, apart := false, narrowed := true }
def FogNamedUptoSaid : Prop := fogNamedUptoRow.holds Tryz.pinned (OpenSpec.upto fogNamedSpec)

end Rows
end Go.Proofs.YtlonpgbapiemcaaGreat
