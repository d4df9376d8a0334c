/-
  No cell of these rows narrows 'for every input' (looked for: loops, veiled, ifaces, maps, wideKeys, modest, calm, conditions, laid).
  DERIVED. THE GIVEN ROWS OF THIS SEAT. 11 by the template 'for every input the law returns true; each argument reads behind the call as it read before'; 0 by the template 'total and deterministic' (their statements: YthjlapmjpjpgeaaTotals.lean).
  GIVEN WITH THE SEED: the statements are not yours to turn. If you find one false, say at which input.
  Laid BY PROGRAM, IN A SANDBOX (cutbox-rows.mjs): the forced cells as the released guide's own fill.sh prints them over the translation 0fd0bbdcec2f08cb… (all of the seat's roots in one cut). By AI agents, Wed Nov 11 2026. No macro, syntax, notation, axiom, sorry.
-/
import Derived.Test.YthjlapmjpjpgeaaChecked
import GoSem.Claim
import GoSem.ClaimJoined
import GoSem.ClaimMapViews
import Derived.JoinedTies
import Derived.KernelRfl
namespace Go.Proofs.Ythjlapmjpjpgeaa
/- THE CELL 'sum', in the pinned program and in every row, IS THE sha256 OF THE DUMP (.gsa) THAT YthjlapmjpjpgeaaProg.lean LOADS. Nothing in Lean hashes anything: it is a label: what it is worth is what the hold of that sum in a sandbox is worth. -/
noncomputable def Try.pinned : Pinned := { name := "ythjlapmjpjpgeaa", sum := "0fd0bbdcec2f08cb3bd3048006202785e875b2feaa7df1417baf12eb79551dc0", checked := Try.checked }
namespace Rows
def none {H : Type} : Left H := { results := [], args := [] }

/-- 'laws.FnExactConstants': WHATEVER THE INPUT: true; the input reads as it did. -/
def fnExactConstantsSpec : ChangeSpec := { name := "fnExactConstants", fn := fun _ => fun
  | [] => { results := [.lit (.bool true)], args := [] }
  | _ => none }
def fnExactConstantsRow : OpenClaim := { program := "ythjlapmjpjpgeaa", sum := "0fd0bbdcec2f08cb3bd3048006202785e875b2feaa7df1417baf12eb79551dc0", func := "loop.example/g00087/laws.FnExactConstants", spec := "fnExactConstants", apart := false }
def FnExactConstantsSaid : Prop := fnExactConstantsRow.holds Try.pinned (OpenSpec.ofChange fnExactConstantsSpec)

/-- ITS FALSE NEIGHBOUR: 'it returns false'. Refute it at one input. -/
def fnExactConstantsWrong : ChangeSpec := { name := "fnExactConstants", fn := fun _ => fun
  | [] => { results := [.lit (.bool false)], args := [] }
  | _ => none }
def FnExactConstantsWrongFalsely : Prop := fnExactConstantsRow.holds Try.pinned (OpenSpec.ofChange fnExactConstantsWrong)

/-- 'laws.FnExactFull': WHATEVER THE INPUT: true; the input reads as it did. -/
def fnExactFullSpec : ChangeSpec := { name := "fnExactFull", fn := fun _ => fun
  | [d] => { results := [.lit (.bool true)], args := [d] }
  | _ => none }
def fnExactFullRow : OpenClaim := { program := "ythjlapmjpjpgeaa", sum := "0fd0bbdcec2f08cb3bd3048006202785e875b2feaa7df1417baf12eb79551dc0", func := "loop.example/g00087/laws.FnExactFull", spec := "fnExactFull", apart := false }
def FnExactFullSaid : Prop := fnExactFullRow.holds Try.pinned (OpenSpec.ofChange fnExactFullSpec)

/-- ITS FALSE NEIGHBOUR: 'it returns false'. Refute it at one input. -/
def fnExactFullWrong : ChangeSpec := { name := "fnExactFull", fn := fun _ => fun
  | [d] => { results := [.lit (.bool false)], args := [d] }
  | _ => none }
def FnExactFullWrongFalsely : Prop := fnExactFullRow.holds Try.pinned (OpenSpec.ofChange fnExactFullWrong)

/-- 'laws.FnExactSlimmed': WHATEVER THE INPUT: true; the input reads as it did. -/
def fnExactSlimmedSpec : ChangeSpec := { name := "fnExactSlimmed", fn := fun _ => fun
  | [d] => { results := [.lit (.bool true)], args := [d] }
  | _ => none }
def fnExactSlimmedRow : OpenClaim := { program := "ythjlapmjpjpgeaa", sum := "0fd0bbdcec2f08cb3bd3048006202785e875b2feaa7df1417baf12eb79551dc0", func := "loop.example/g00087/laws.FnExactSlimmed", spec := "fnExactSlimmed", apart := false }
def FnExactSlimmedSaid : Prop := fnExactSlimmedRow.holds Try.pinned (OpenSpec.ofChange fnExactSlimmedSpec)

/-- ITS FALSE NEIGHBOUR: 'it returns false'. Refute it at one input. -/
def fnExactSlimmedWrong : ChangeSpec := { name := "fnExactSlimmed", fn := fun _ => fun
  | [d] => { results := [.lit (.bool false)], args := [d] }
  | _ => none }
def FnExactSlimmedWrongFalsely : Prop := fnExactSlimmedRow.holds Try.pinned (OpenSpec.ofChange fnExactSlimmedWrong)

/-- 'laws.FnExactPhTimes': WHATEVER THE INPUT: true; the input reads as it did. -/
def fnExactPhTimesSpec : ChangeSpec := { name := "fnExactPhTimes", fn := fun _ => fun
  | [d1, d2] => { results := [.lit (.bool true)], args := [d1, d2] }
  | _ => none }
def fnExactPhTimesRow : OpenClaim := { program := "ythjlapmjpjpgeaa", sum := "0fd0bbdcec2f08cb3bd3048006202785e875b2feaa7df1417baf12eb79551dc0", func := "loop.example/g00087/laws.FnExactPhTimes", spec := "fnExactPhTimes", apart := false }
def FnExactPhTimesSaid : Prop := fnExactPhTimesRow.holds Try.pinned (OpenSpec.ofChange fnExactPhTimesSpec)

/-- ITS FALSE NEIGHBOUR: 'it returns false'. Refute it at one input. -/
def fnExactPhTimesWrong : ChangeSpec := { name := "fnExactPhTimes", fn := fun _ => fun
  | [d1, d2] => { results := [.lit (.bool false)], args := [d1, d2] }
  | _ => none }
def FnExactPhTimesWrongFalsely : Prop := fnExactPhTimesRow.holds Try.pinned (OpenSpec.ofChange fnExactPhTimesWrong)

/-- 'laws.FnExactSumPh': WHATEVER THE INPUT: true; the input reads as it did. -/
def fnExactSumPhSpec : ChangeSpec := { name := "fnExactSumPh", fn := fun _ => fun
  | [d] => { results := [.lit (.bool true)], args := [d] }
  | _ => none }
def fnExactSumPhRow : OpenClaim := { program := "ythjlapmjpjpgeaa", sum := "0fd0bbdcec2f08cb3bd3048006202785e875b2feaa7df1417baf12eb79551dc0", func := "loop.example/g00087/laws.FnExactSumPh", spec := "fnExactSumPh", apart := false }
def FnExactSumPhSaid : Prop := fnExactSumPhRow.holds Try.pinned (OpenSpec.ofChange fnExactSumPhSpec)

/-- ITS FALSE NEIGHBOUR: 'it returns false'. Refute it at one input. -/
def fnExactSumPhWrong : ChangeSpec := { name := "fnExactSumPh", fn := fun _ => fun
  | [d] => { results := [.lit (.bool false)], args := [d] }
  | _ => none }
def FnExactSumPhWrongFalsely : Prop := fnExactSumPhRow.holds Try.pinned (OpenSpec.ofChange fnExactSumPhWrong)

/-- 'laws.FnExactAlikePh': WHATEVER THE INPUT: true; the input reads as it did. -/
def fnExactAlikePhSpec : ChangeSpec := { name := "fnExactAlikePh", fn := fun _ => fun
  | [d1, d2] => { results := [.lit (.bool true)], args := [d1, d2] }
  | _ => none }
def fnExactAlikePhRow : OpenClaim := { program := "ythjlapmjpjpgeaa", sum := "0fd0bbdcec2f08cb3bd3048006202785e875b2feaa7df1417baf12eb79551dc0", func := "loop.example/g00087/laws.FnExactAlikePh", spec := "fnExactAlikePh", unfollowed := true, recurses := true, apart := false }
def FnExactAlikePhSaid : Prop := fnExactAlikePhRow.holds Try.pinned (OpenSpec.ofChange fnExactAlikePhSpec)

/-- ITS FALSE NEIGHBOUR: 'it returns false'. Refute it at one input. -/
def fnExactAlikePhWrong : ChangeSpec := { name := "fnExactAlikePh", fn := fun _ => fun
  | [d1, d2] => { results := [.lit (.bool false)], args := [d1, d2] }
  | _ => none }
def FnExactAlikePhWrongFalsely : Prop := fnExactAlikePhRow.holds Try.pinned (OpenSpec.ofChange fnExactAlikePhWrong)

/-- 'laws.FnExactPhOver': WHATEVER THE INPUT: true; the input reads as it did. -/
def fnExactPhOverSpec : ChangeSpec := { name := "fnExactPhOver", fn := fun _ => fun
  | [d1, d2] => { results := [.lit (.bool true)], args := [d1, d2] }
  | _ => none }
def fnExactPhOverRow : OpenClaim := { program := "ythjlapmjpjpgeaa", sum := "0fd0bbdcec2f08cb3bd3048006202785e875b2feaa7df1417baf12eb79551dc0", func := "loop.example/g00087/laws.FnExactPhOver", spec := "fnExactPhOver", inPlace := ["math.Float64bits", "math.Float64frombits"], apart := false }
def FnExactPhOverSaid : Prop := fnExactPhOverRow.holds Try.pinned (OpenSpec.ofChange fnExactPhOverSpec)

/-- ITS FALSE NEIGHBOUR: 'it returns false'. Refute it at one input. -/
def fnExactPhOverWrong : ChangeSpec := { name := "fnExactPhOver", fn := fun _ => fun
  | [d1, d2] => { results := [.lit (.bool false)], args := [d1, d2] }
  | _ => none }
def FnExactPhOverWrongFalsely : Prop := fnExactPhOverRow.holds Try.pinned (OpenSpec.ofChange fnExactPhOverWrong)

/-- 'laws.FnExactTurned': WHATEVER THE INPUT: true; the input reads as it did. -/
def fnExactTurnedSpec : ChangeSpec := { name := "fnExactTurned", fn := fun _ => fun
  | [d1, d2] => { results := [.lit (.bool true)], args := [d1, d2] }
  | _ => none }
def fnExactTurnedRow : OpenClaim := { program := "ythjlapmjpjpgeaa", sum := "0fd0bbdcec2f08cb3bd3048006202785e875b2feaa7df1417baf12eb79551dc0", func := "loop.example/g00087/laws.FnExactTurned", spec := "fnExactTurned", inPlace := ["math.Float64bits", "math.Float64frombits"], apart := false }
def FnExactTurnedSaid : Prop := fnExactTurnedRow.holds Try.pinned (OpenSpec.ofChange fnExactTurnedSpec)

/-- ITS FALSE NEIGHBOUR: 'it returns false'. Refute it at one input. -/
def fnExactTurnedWrong : ChangeSpec := { name := "fnExactTurned", fn := fun _ => fun
  | [d1, d2] => { results := [.lit (.bool false)], args := [d1, d2] }
  | _ => none }
def FnExactTurnedWrongFalsely : Prop := fnExactTurnedRow.holds Try.pinned (OpenSpec.ofChange fnExactTurnedWrong)

/-- 'laws.FnPhasors': WHATEVER THE INPUT: true; the input reads as it did. -/
def fnPhasorsSpec : ChangeSpec := { name := "fnPhasors", fn := fun _ => fun
  | [d] => { results := [.lit (.bool true)], args := [d] }
  | _ => none }
def fnPhasorsRow : OpenClaim := { program := "ythjlapmjpjpgeaa", sum := "0fd0bbdcec2f08cb3bd3048006202785e875b2feaa7df1417baf12eb79551dc0", func := "loop.example/g00087/laws.FnPhasors", spec := "fnPhasors", inPlace := ["math.Float64bits", "math.Float64frombits"], unfollowed := true, recurses := true, apart := false }
def FnPhasorsSaid : Prop := fnPhasorsRow.holds Try.pinned (OpenSpec.ofChange fnPhasorsSpec)

/-- ITS FALSE NEIGHBOUR: 'it returns false'. Refute it at one input. -/
def fnPhasorsWrong : ChangeSpec := { name := "fnPhasors", fn := fun _ => fun
  | [d] => { results := [.lit (.bool false)], args := [d] }
  | _ => none }
def FnPhasorsWrongFalsely : Prop := fnPhasorsRow.holds Try.pinned (OpenSpec.ofChange fnPhasorsWrong)

/-- 'laws.FnTurns': WHATEVER THE INPUT: true; the input reads as it did. -/
def fnTurnsSpec : ChangeSpec := { name := "fnTurns", fn := fun _ => fun
  | [d] => { results := [.lit (.bool true)], args := [d] }
  | _ => none }
def fnTurnsRow : OpenClaim := { program := "ythjlapmjpjpgeaa", sum := "0fd0bbdcec2f08cb3bd3048006202785e875b2feaa7df1417baf12eb79551dc0", func := "loop.example/g00087/laws.FnTurns", spec := "fnTurns", inPlace := ["math.Float64bits", "math.Float64frombits"], apart := false }
def FnTurnsSaid : Prop := fnTurnsRow.holds Try.pinned (OpenSpec.ofChange fnTurnsSpec)

/-- ITS FALSE NEIGHBOUR: 'it returns false'. Refute it at one input. -/
def fnTurnsWrong : ChangeSpec := { name := "fnTurns", fn := fun _ => fun
  | [d] => { results := [.lit (.bool false)], args := [d] }
  | _ => none }
def FnTurnsWrongFalsely : Prop := fnTurnsRow.holds Try.pinned (OpenSpec.ofChange fnTurnsWrong)

/-- 'laws.FnExactTurnAll': WHATEVER THE INPUT: true; the input reads as it did. -/
def fnExactTurnAllSpec : ChangeSpec := { name := "fnExactTurnAll", fn := fun _ => fun
  | [d1, d2] => { results := [.lit (.bool true)], args := [d1, d2] }
  | _ => none }
def fnExactTurnAllRow : OpenClaim := { program := "ythjlapmjpjpgeaa", sum := "0fd0bbdcec2f08cb3bd3048006202785e875b2feaa7df1417baf12eb79551dc0", func := "loop.example/g00087/laws.FnExactTurnAll", spec := "fnExactTurnAll", inPlace := ["math.Float64bits", "math.Float64frombits"], apart := false }
def FnExactTurnAllSaid : Prop := fnExactTurnAllRow.holds Try.pinned (OpenSpec.ofChange fnExactTurnAllSpec)

/-- ITS FALSE NEIGHBOUR: 'it returns false'. Refute it at one input. -/
def fnExactTurnAllWrong : ChangeSpec := { name := "fnExactTurnAll", fn := fun _ => fun
  | [d1, d2] => { results := [.lit (.bool false)], args := [d1, d2] }
  | _ => none }
def FnExactTurnAllWrongFalsely : Prop := fnExactTurnAllRow.holds Try.pinned (OpenSpec.ofChange fnExactTurnAllWrong)

/- THE SECOND FORM. 'bulk': how many values and letters a reading holds, each counted each time it is reached (what is shared counts as often as it is met; a slice's spare places count too). A statement '..UptoSaid' is the law's where the arguments, and the package variables that the reading takes, are together of bulk at most 1048576: NARROWER than '..Said'. Prove '..Said' where nothing that the law and all that it calls make is longer than what came in: it says more and counts as full. Else prove '..UptoSaid'. A law counts once. -/
mutual
def uptoBulk {H : Type} : DataW H → Nat
  | .lit (.string bytes) => bytes.length + 1
  | .lit _ => 1
  | .nil => 1
  | .ptr d => uptoBulk d + 1
  | .slice elems spare => uptoBulkAll elems + uptoBulkAll spare + 1
  | .agg parts => uptoBulkAll parts + 1
  | .iface _ d => uptoBulk d + 1
  | .map entries => uptoBulkEntries entries + 1
  | .held _ => 1
def uptoBulkAll {H : Type} : List (DataW H) → Nat
  | [] => 0
  | d :: r => uptoBulk d + uptoBulkAll r
def uptoBulkEntries {H : Type} : List (Lit × DataW H) → Nat
  | [] => 0
  | x :: r => uptoBulkEntry x + uptoBulkEntries r
def uptoBulkEntry {H : Type} : Lit × DataW H → Nat
  | (.string bytes, d) => bytes.length + uptoBulk d + 1
  | (_, d) => uptoBulk d + 1
 end
def uptoSmall : (H : Type) → List (DataW H) → Bool := fun _ ds => decide (uptoBulkAll ds ≤ 1048576)
def OpenSpec.upto (s : _root_.Go.ChangeSpec) : _root_.Go.OpenSpec := { _root_.Go.OpenSpec.ofChange s with cond := some uptoSmall }

/-- 'laws.FnExactConstants', WHERE WHAT IT READS IS OF BULK AT MOST 1048576: true; the input reads as it did. -/
def fnExactConstantsUptoRow : OpenClaim := { program := "ythjlapmjpjpgeaa", sum := "0fd0bbdcec2f08cb3bd3048006202785e875b2feaa7df1417baf12eb79551dc0", func := "loop.example/g00087/laws.FnExactConstants", spec := "fnExactConstants", apart := false, narrowed := true }
def FnExactConstantsUptoSaid : Prop := fnExactConstantsUptoRow.holds Try.pinned (OpenSpec.upto fnExactConstantsSpec)

/-- 'laws.FnExactFull', WHERE WHAT IT READS IS OF BULK AT MOST 1048576: true; the input reads as it did. -/
def fnExactFullUptoRow : OpenClaim := { program := "ythjlapmjpjpgeaa", sum := "0fd0bbdcec2f08cb3bd3048006202785e875b2feaa7df1417baf12eb79551dc0", func := "loop.example/g00087/laws.FnExactFull", spec := "fnExactFull", apart := false, narrowed := true }
def FnExactFullUptoSaid : Prop := fnExactFullUptoRow.holds Try.pinned (OpenSpec.upto fnExactFullSpec)

/-- 'laws.FnExactSlimmed', WHERE WHAT IT READS IS OF BULK AT MOST 1048576: true; the input reads as it did. -/
def fnExactSlimmedUptoRow : OpenClaim := { program := "ythjlapmjpjpgeaa", sum := "0fd0bbdcec2f08cb3bd3048006202785e875b2feaa7df1417baf12eb79551dc0", func := "loop.example/g00087/laws.FnExactSlimmed", spec := "fnExactSlimmed", apart := false, narrowed := true }
def FnExactSlimmedUptoSaid : Prop := fnExactSlimmedUptoRow.holds Try.pinned (OpenSpec.upto fnExactSlimmedSpec)

/-- 'laws.FnExactPhTimes', WHERE WHAT IT READS IS OF BULK AT MOST 1048576: true; the input reads as it did. -/
def fnExactPhTimesUptoRow : OpenClaim := { program := "ythjlapmjpjpgeaa", sum := "0fd0bbdcec2f08cb3bd3048006202785e875b2feaa7df1417baf12eb79551dc0", func := "loop.example/g00087/laws.FnExactPhTimes", spec := "fnExactPhTimes", apart := false, narrowed := true }
def FnExactPhTimesUptoSaid : Prop := fnExactPhTimesUptoRow.holds Try.pinned (OpenSpec.upto fnExactPhTimesSpec)

/-- 'laws.FnExactSumPh', WHERE WHAT IT READS IS OF BULK AT MOST 1048576: true; the input reads as it did. -/
def fnExactSumPhUptoRow : OpenClaim := { program := "ythjlapmjpjpgeaa", sum := "0fd0bbdcec2f08cb3bd3048006202785e875b2feaa7df1417baf12eb79551dc0", func := "loop.example/g00087/laws.FnExactSumPh", spec := "fnExactSumPh", apart := false, narrowed := true }
def FnExactSumPhUptoSaid : Prop := fnExactSumPhUptoRow.holds Try.pinned (OpenSpec.upto fnExactSumPhSpec)

/-- 'laws.FnExactAlikePh', WHERE WHAT IT READS IS OF BULK AT MOST 1048576: true; the input reads as it did. -/
def fnExactAlikePhUptoRow : OpenClaim := { program := "ythjlapmjpjpgeaa", sum := "0fd0bbdcec2f08cb3bd3048006202785e875b2feaa7df1417baf12eb79551dc0", func := "loop.example/g00087/laws.FnExactAlikePh", spec := "fnExactAlikePh", unfollowed := true, recurses := true, apart := false, narrowed := true }
def FnExactAlikePhUptoSaid : Prop := fnExactAlikePhUptoRow.holds Try.pinned (OpenSpec.upto fnExactAlikePhSpec)

/-- 'laws.FnExactPhOver', WHERE WHAT IT READS IS OF BULK AT MOST 1048576: true; the input reads as it did. -/
def fnExactPhOverUptoRow : OpenClaim := { program := "ythjlapmjpjpgeaa", sum := "0fd0bbdcec2f08cb3bd3048006202785e875b2feaa7df1417baf12eb79551dc0", func := "loop.example/g00087/laws.FnExactPhOver", spec := "fnExactPhOver", inPlace := ["math.Float64bits", "math.Float64frombits"], apart := false, narrowed := true }
def FnExactPhOverUptoSaid : Prop := fnExactPhOverUptoRow.holds Try.pinned (OpenSpec.upto fnExactPhOverSpec)

/-- 'laws.FnExactTurned', WHERE WHAT IT READS IS OF BULK AT MOST 1048576: true; the input reads as it did. -/
def fnExactTurnedUptoRow : OpenClaim := { program := "ythjlapmjpjpgeaa", sum := "0fd0bbdcec2f08cb3bd3048006202785e875b2feaa7df1417baf12eb79551dc0", func := "loop.example/g00087/laws.FnExactTurned", spec := "fnExactTurned", inPlace := ["math.Float64bits", "math.Float64frombits"], apart := false, narrowed := true }
def FnExactTurnedUptoSaid : Prop := fnExactTurnedUptoRow.holds Try.pinned (OpenSpec.upto fnExactTurnedSpec)

/-- 'laws.FnPhasors', WHERE WHAT IT READS IS OF BULK AT MOST 1048576: true; the input reads as it did. -/
def fnPhasorsUptoRow : OpenClaim := { program := "ythjlapmjpjpgeaa", sum := "0fd0bbdcec2f08cb3bd3048006202785e875b2feaa7df1417baf12eb79551dc0", func := "loop.example/g00087/laws.FnPhasors", spec := "fnPhasors", inPlace := ["math.Float64bits", "math.Float64frombits"], unfollowed := true, recurses := true, apart := false, narrowed := true }
def FnPhasorsUptoSaid : Prop := fnPhasorsUptoRow.holds Try.pinned (OpenSpec.upto fnPhasorsSpec)

/-- 'laws.FnTurns', WHERE WHAT IT READS IS OF BULK AT MOST 1048576: true; the input reads as it did. -/
def fnTurnsUptoRow : OpenClaim := { program := "ythjlapmjpjpgeaa", sum := "0fd0bbdcec2f08cb3bd3048006202785e875b2feaa7df1417baf12eb79551dc0", func := "loop.example/g00087/laws.FnTurns", spec := "fnTurns", inPlace := ["math.Float64bits", "math.Float64frombits"], apart := false, narrowed := true }
def FnTurnsUptoSaid : Prop := fnTurnsUptoRow.holds Try.pinned (OpenSpec.upto fnTurnsSpec)

/-- 'laws.FnExactTurnAll', WHERE WHAT IT READS IS OF BULK AT MOST 1048576: true; the input reads as it did. -/
def fnExactTurnAllUptoRow : OpenClaim := { program := "ythjlapmjpjpgeaa", sum := "0fd0bbdcec2f08cb3bd3048006202785e875b2feaa7df1417baf12eb79551dc0", func := "loop.example/g00087/laws.FnExactTurnAll", spec := "fnExactTurnAll", inPlace := ["math.Float64bits", "math.Float64frombits"], apart := false, narrowed := true }
def FnExactTurnAllUptoSaid : Prop := fnExactTurnAllUptoRow.holds Try.pinned (OpenSpec.upto fnExactTurnAllSpec)

end Rows
end Go.Proofs.Ythjlapmjpjpgeaa
