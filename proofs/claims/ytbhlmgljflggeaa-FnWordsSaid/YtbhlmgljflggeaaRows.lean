/-
  No cell of these rows narrows 'for every input' (looked for: loops, veiled, ifaces, maps, wideKeys, modest, calm, conditions, laid).
  DERIVED. THE GIVEN ROWS OF THIS SEAT. 8 by the template 'for every input the law returns true; each argument reads behind the call as it read before'; 0 by the template 'total and deterministic' (their statements: YtbhlmgljflggeaaTotals.lean).
  GIVEN WITH THE SEED: the statements are not yours to turn. If you find one false, say at which input.
  Laid BY PROGRAM, IN A SANDBOX (cutbox-rows.mjs): the forced cells as the released guide's own fill.sh prints them over the translation 9ea0c073ea9c6782… (all of the seat's roots in one cut). By AI agents, Wed Nov 11 2026. No macro, syntax, notation, axiom, sorry.
-/
import Derived.Test.YtbhlmgljflggeaaChecked
import GoSem.Claim
import GoSem.ClaimJoined
import GoSem.ClaimMapViews
import Derived.JoinedTies
import Derived.KernelRfl
namespace Go.Proofs.Ytbhlmgljflggeaa
/- THE CELL 'sum', in the pinned program and in every row, IS THE sha256 OF THE DUMP (.gsa) THAT YtbhlmgljflggeaaProg.lean LOADS. Nothing in Lean hashes anything: it is a label: what it is worth is what the hold of that sum in a sandbox is worth. -/
noncomputable def Try.pinned : Pinned := { name := "ytbhlmgljflggeaa", sum := "9ea0c073ea9c678257a75293348b0c2d3f932abb5f4e4b7b309a057a0dfd76c4", checked := Try.checked }
namespace Rows
def none {H : Type} : Left H := { results := [], args := [] }

/-- 'laws.FnExactMemoryOk': WHATEVER THE INPUT: true; the input reads as it did. -/
def fnExactMemoryOkSpec : ChangeSpec := { name := "fnExactMemoryOk", fn := fun _ => fun
  | [d] => { results := [.lit (.bool true)], args := [d] }
  | _ => none }
def fnExactMemoryOkRow : OpenClaim := { program := "ytbhlmgljflggeaa", sum := "9ea0c073ea9c678257a75293348b0c2d3f932abb5f4e4b7b309a057a0dfd76c4", func := "loop.example/g00087/laws.FnExactMemoryOk", spec := "fnExactMemoryOk", unfollowed := true, recurses := true, apart := false }
def FnExactMemoryOkSaid : Prop := fnExactMemoryOkRow.holds Try.pinned (OpenSpec.ofChange fnExactMemoryOkSpec)

/-- ITS FALSE NEIGHBOUR: 'it returns false'. Refute it at one input. -/
def fnExactMemoryOkWrong : ChangeSpec := { name := "fnExactMemoryOk", fn := fun _ => fun
  | [d] => { results := [.lit (.bool false)], args := [d] }
  | _ => none }
def FnExactMemoryOkWrongFalsely : Prop := fnExactMemoryOkRow.holds Try.pinned (OpenSpec.ofChange fnExactMemoryOkWrong)

/-- 'laws.FnExactSwapAll': WHATEVER THE INPUT: true; the input reads as it did. -/
def fnExactSwapAllSpec : ChangeSpec := { name := "fnExactSwapAll", fn := fun _ => fun
  | [d1, d2, d3, d4] => { results := [.lit (.bool true)], args := [d1, d2, d3, d4] }
  | _ => none }
def fnExactSwapAllRow : OpenClaim := { program := "ytbhlmgljflggeaa", sum := "9ea0c073ea9c678257a75293348b0c2d3f932abb5f4e4b7b309a057a0dfd76c4", func := "loop.example/g00087/laws.FnExactSwapAll", spec := "fnExactSwapAll", unfollowed := true, recurses := true, apart := false }
def FnExactSwapAllSaid : Prop := fnExactSwapAllRow.holds Try.pinned (OpenSpec.ofChange fnExactSwapAllSpec)

/-- ITS FALSE NEIGHBOUR: 'it returns false'. Refute it at one input. -/
def fnExactSwapAllWrong : ChangeSpec := { name := "fnExactSwapAll", fn := fun _ => fun
  | [d1, d2, d3, d4] => { results := [.lit (.bool false)], args := [d1, d2, d3, d4] }
  | _ => none }
def FnExactSwapAllWrongFalsely : Prop := fnExactSwapAllRow.holds Try.pinned (OpenSpec.ofChange fnExactSwapAllWrong)

/-- 'laws.FnExactWord': WHATEVER THE INPUT: true; the input reads as it did. -/
def fnExactWordSpec : ChangeSpec := { name := "fnExactWord", fn := fun _ => fun
  | [d1, d2] => { results := [.lit (.bool true)], args := [d1, d2] }
  | _ => none }
def fnExactWordRow : OpenClaim := { program := "ytbhlmgljflggeaa", sum := "9ea0c073ea9c678257a75293348b0c2d3f932abb5f4e4b7b309a057a0dfd76c4", func := "loop.example/g00087/laws.FnExactWord", spec := "fnExactWord", unfollowed := true, recurses := true, apart := false }
def FnExactWordSaid : Prop := fnExactWordRow.holds Try.pinned (OpenSpec.ofChange fnExactWordSpec)

/-- ITS FALSE NEIGHBOUR: 'it returns false'. Refute it at one input. -/
def fnExactWordWrong : ChangeSpec := { name := "fnExactWord", fn := fun _ => fun
  | [d1, d2] => { results := [.lit (.bool false)], args := [d1, d2] }
  | _ => none }
def FnExactWordWrongFalsely : Prop := fnExactWordRow.holds Try.pinned (OpenSpec.ofChange fnExactWordWrong)

/-- 'laws.FnExactMerged': WHATEVER THE INPUT: true; the input reads as it did. -/
def fnExactMergedSpec : ChangeSpec := { name := "fnExactMerged", fn := fun _ => fun
  | [d1, d2, d3] => { results := [.lit (.bool true)], args := [d1, d2, d3] }
  | _ => none }
def fnExactMergedRow : OpenClaim := { program := "ytbhlmgljflggeaa", sum := "9ea0c073ea9c678257a75293348b0c2d3f932abb5f4e4b7b309a057a0dfd76c4", func := "loop.example/g00087/laws.FnExactMerged", spec := "fnExactMerged", apart := false }
def FnExactMergedSaid : Prop := fnExactMergedRow.holds Try.pinned (OpenSpec.ofChange fnExactMergedSpec)

/-- ITS FALSE NEIGHBOUR: 'it returns false'. Refute it at one input. -/
def fnExactMergedWrong : ChangeSpec := { name := "fnExactMerged", fn := fun _ => fun
  | [d1, d2, d3] => { results := [.lit (.bool false)], args := [d1, d2, d3] }
  | _ => none }
def FnExactMergedWrongFalsely : Prop := fnExactMergedRow.holds Try.pinned (OpenSpec.ofChange fnExactMergedWrong)

/-- 'laws.FnWords': WHATEVER THE INPUT: true; the input reads as it did. -/
def fnWordsSpec : ChangeSpec := { name := "fnWords", fn := fun _ => fun
  | [d] => { results := [.lit (.bool true)], args := [d] }
  | _ => none }
def fnWordsRow : OpenClaim := { program := "ytbhlmgljflggeaa", sum := "9ea0c073ea9c678257a75293348b0c2d3f932abb5f4e4b7b309a057a0dfd76c4", func := "loop.example/g00087/laws.FnWords", spec := "fnWords", unfollowed := true, recurses := true, apart := false }
def FnWordsSaid : Prop := fnWordsRow.holds Try.pinned (OpenSpec.ofChange fnWordsSpec)

/-- ITS FALSE NEIGHBOUR: 'it returns false'. Refute it at one input. -/
def fnWordsWrong : ChangeSpec := { name := "fnWords", fn := fun _ => fun
  | [d] => { results := [.lit (.bool false)], args := [d] }
  | _ => none }
def FnWordsWrongFalsely : Prop := fnWordsRow.holds Try.pinned (OpenSpec.ofChange fnWordsWrong)

/-- 'laws.FnExactWords': WHATEVER THE INPUT: true; the input reads as it did. -/
def fnExactWordsSpec : ChangeSpec := { name := "fnExactWords", fn := fun _ => fun
  | [d1, d2] => { results := [.lit (.bool true)], args := [d1, d2] }
  | _ => none }
def fnExactWordsRow : OpenClaim := { program := "ytbhlmgljflggeaa", sum := "9ea0c073ea9c678257a75293348b0c2d3f932abb5f4e4b7b309a057a0dfd76c4", func := "loop.example/g00087/laws.FnExactWords", spec := "fnExactWords", unfollowed := true, recurses := true, apart := false }
def FnExactWordsSaid : Prop := fnExactWordsRow.holds Try.pinned (OpenSpec.ofChange fnExactWordsSpec)

/-- ITS FALSE NEIGHBOUR: 'it returns false'. Refute it at one input. -/
def fnExactWordsWrong : ChangeSpec := { name := "fnExactWords", fn := fun _ => fun
  | [d1, d2] => { results := [.lit (.bool false)], args := [d1, d2] }
  | _ => none }
def FnExactWordsWrongFalsely : Prop := fnExactWordsRow.holds Try.pinned (OpenSpec.ofChange fnExactWordsWrong)

/-- 'laws.FnExactAllAlike': WHATEVER THE INPUT: true; the input reads as it did. -/
def fnExactAllAlikeSpec : ChangeSpec := { name := "fnExactAllAlike", fn := fun _ => fun
  | [d1, d2, d3] => { results := [.lit (.bool true)], args := [d1, d2, d3] }
  | _ => none }
def fnExactAllAlikeRow : OpenClaim := { program := "ytbhlmgljflggeaa", sum := "9ea0c073ea9c678257a75293348b0c2d3f932abb5f4e4b7b309a057a0dfd76c4", func := "loop.example/g00087/laws.FnExactAllAlike", spec := "fnExactAllAlike", unfollowed := true, recurses := true, apart := false }
def FnExactAllAlikeSaid : Prop := fnExactAllAlikeRow.holds Try.pinned (OpenSpec.ofChange fnExactAllAlikeSpec)

/-- ITS FALSE NEIGHBOUR: 'it returns false'. Refute it at one input. -/
def fnExactAllAlikeWrong : ChangeSpec := { name := "fnExactAllAlike", fn := fun _ => fun
  | [d1, d2, d3] => { results := [.lit (.bool false)], args := [d1, d2, d3] }
  | _ => none }
def FnExactAllAlikeWrongFalsely : Prop := fnExactAllAlikeRow.holds Try.pinned (OpenSpec.ofChange fnExactAllAlikeWrong)

/-- 'laws.FnAllOrNone': WHATEVER THE INPUT: true; the input reads as it did. -/
def fnAllOrNoneSpec : ChangeSpec := { name := "fnAllOrNone", fn := fun _ => fun
  | [d] => { results := [.lit (.bool true)], args := [d] }
  | _ => none }
def fnAllOrNoneRow : OpenClaim := { program := "ytbhlmgljflggeaa", sum := "9ea0c073ea9c678257a75293348b0c2d3f932abb5f4e4b7b309a057a0dfd76c4", func := "loop.example/g00087/laws.FnAllOrNone", spec := "fnAllOrNone", unfollowed := true, recurses := true, apart := false }
def FnAllOrNoneSaid : Prop := fnAllOrNoneRow.holds Try.pinned (OpenSpec.ofChange fnAllOrNoneSpec)

/-- ITS FALSE NEIGHBOUR: 'it returns false'. Refute it at one input. -/
def fnAllOrNoneWrong : ChangeSpec := { name := "fnAllOrNone", fn := fun _ => fun
  | [d] => { results := [.lit (.bool false)], args := [d] }
  | _ => none }
def FnAllOrNoneWrongFalsely : Prop := fnAllOrNoneRow.holds Try.pinned (OpenSpec.ofChange fnAllOrNoneWrong)

/- THE SECOND FORM. 'bulk': how many values and letters a reading holds, each counted each time it is reached (what is shared counts as often as it is met; a slice's spare places count too). A statement '..UptoSaid' is the law's where the arguments, and the package variables that the reading takes, are together of bulk at most 1048576: NARROWER than '..Said'. Prove '..Said' where nothing that the law and all that it calls make is longer than what came in: it says more and counts as full. Else prove '..UptoSaid'. A law counts once. -/
mutual
def uptoBulk {H : Type} : DataW H → Nat
  | .lit (.string bytes) => bytes.length + 1
  | .lit _ => 1
  | .nil => 1
  | .ptr d => uptoBulk d + 1
  | .slice elems spare => uptoBulkAll elems + uptoBulkAll spare + 1
  | .agg parts => uptoBulkAll parts + 1
  | .iface _ d => uptoBulk d + 1
  | .map entries => uptoBulkEntries entries + 1
  | .held _ => 1
def uptoBulkAll {H : Type} : List (DataW H) → Nat
  | [] => 0
  | d :: r => uptoBulk d + uptoBulkAll r
def uptoBulkEntries {H : Type} : List (Lit × DataW H) → Nat
  | [] => 0
  | x :: r => uptoBulkEntry x + uptoBulkEntries r
def uptoBulkEntry {H : Type} : Lit × DataW H → Nat
  | (.string bytes, d) => bytes.length + uptoBulk d + 1
  | (_, d) => uptoBulk d + 1
 end
def uptoSmall : (H : Type) → List (DataW H) → Bool := fun _ ds => decide (uptoBulkAll ds ≤ 1048576)
def OpenSpec.upto (s : _root_.Go.ChangeSpec) : _root_.Go.OpenSpec := { _root_.Go.OpenSpec.ofChange s with cond := some uptoSmall }

/-- 'laws.FnExactMemoryOk', WHERE WHAT IT READS IS OF BULK AT MOST 1048576: true; the input reads as it did. -/
def fnExactMemoryOkUptoRow : OpenClaim := { program := "ytbhlmgljflggeaa", sum := "9ea0c073ea9c678257a75293348b0c2d3f932abb5f4e4b7b309a057a0dfd76c4", func := "loop.example/g00087/laws.FnExactMemoryOk", spec := "fnExactMemoryOk", unfollowed := true, recurses := true, apart := false, narrowed := true }
def FnExactMemoryOkUptoSaid : Prop := fnExactMemoryOkUptoRow.holds Try.pinned (OpenSpec.upto fnExactMemoryOkSpec)

/-- 'laws.FnExactSwapAll', WHERE WHAT IT READS IS OF BULK AT MOST 1048576: true; the input reads as it did. -/
def fnExactSwapAllUptoRow : OpenClaim := { program := "ytbhlmgljflggeaa", sum := "9ea0c073ea9c678257a75293348b0c2d3f932abb5f4e4b7b309a057a0dfd76c4", func := "loop.example/g00087/laws.FnExactSwapAll", spec := "fnExactSwapAll", unfollowed := true, recurses := true, apart := false, narrowed := true }
def FnExactSwapAllUptoSaid : Prop := fnExactSwapAllUptoRow.holds Try.pinned (OpenSpec.upto fnExactSwapAllSpec)

/-- 'laws.FnExactWord', WHERE WHAT IT READS IS OF BULK AT MOST 1048576: true; the input reads as it did. -/
def fnExactWordUptoRow : OpenClaim := { program := "ytbhlmgljflggeaa", sum := "9ea0c073ea9c678257a75293348b0c2d3f932abb5f4e4b7b309a057a0dfd76c4", func := "loop.example/g00087/laws.FnExactWord", spec := "fnExactWord", unfollowed := true, recurses := true, apart := false, narrowed := true }
def FnExactWordUptoSaid : Prop := fnExactWordUptoRow.holds Try.pinned (OpenSpec.upto fnExactWordSpec)

/-- 'laws.FnExactMerged', WHERE WHAT IT READS IS OF BULK AT MOST 1048576: true; the input reads as it did. -/
def fnExactMergedUptoRow : OpenClaim := { program := "ytbhlmgljflggeaa", sum := "9ea0c073ea9c678257a75293348b0c2d3f932abb5f4e4b7b309a057a0dfd76c4", func := "loop.example/g00087/laws.FnExactMerged", spec := "fnExactMerged", apart := false, narrowed := true }
def FnExactMergedUptoSaid : Prop := fnExactMergedUptoRow.holds Try.pinned (OpenSpec.upto fnExactMergedSpec)

/-- 'laws.FnWords', WHERE WHAT IT READS IS OF BULK AT MOST 1048576: true; the input reads as it did. -/
def fnWordsUptoRow : OpenClaim := { program := "ytbhlmgljflggeaa", sum := "9ea0c073ea9c678257a75293348b0c2d3f932abb5f4e4b7b309a057a0dfd76c4", func := "loop.example/g00087/laws.FnWords", spec := "fnWords", unfollowed := true, recurses := true, apart := false, narrowed := true }
def FnWordsUptoSaid : Prop := fnWordsUptoRow.holds Try.pinned (OpenSpec.upto fnWordsSpec)

/-- 'laws.FnExactWords', WHERE WHAT IT READS IS OF BULK AT MOST 1048576: true; the input reads as it did. -/
def fnExactWordsUptoRow : OpenClaim := { program := "ytbhlmgljflggeaa", sum := "9ea0c073ea9c678257a75293348b0c2d3f932abb5f4e4b7b309a057a0dfd76c4", func := "loop.example/g00087/laws.FnExactWords", spec := "fnExactWords", unfollowed := true, recurses := true, apart := false, narrowed := true }
def FnExactWordsUptoSaid : Prop := fnExactWordsUptoRow.holds Try.pinned (OpenSpec.upto fnExactWordsSpec)

/-- 'laws.FnExactAllAlike', WHERE WHAT IT READS IS OF BULK AT MOST 1048576: true; the input reads as it did. -/
def fnExactAllAlikeUptoRow : OpenClaim := { program := "ytbhlmgljflggeaa", sum := "9ea0c073ea9c678257a75293348b0c2d3f932abb5f4e4b7b309a057a0dfd76c4", func := "loop.example/g00087/laws.FnExactAllAlike", spec := "fnExactAllAlike", unfollowed := true, recurses := true, apart := false, narrowed := true }
def FnExactAllAlikeUptoSaid : Prop := fnExactAllAlikeUptoRow.holds Try.pinned (OpenSpec.upto fnExactAllAlikeSpec)

/-- 'laws.FnAllOrNone', WHERE WHAT IT READS IS OF BULK AT MOST 1048576: true; the input reads as it did. -/
def fnAllOrNoneUptoRow : OpenClaim := { program := "ytbhlmgljflggeaa", sum := "9ea0c073ea9c678257a75293348b0c2d3f932abb5f4e4b7b309a057a0dfd76c4", func := "loop.example/g00087/laws.FnAllOrNone", spec := "fnAllOrNone", unfollowed := true, recurses := true, apart := false, narrowed := true }
def FnAllOrNoneUptoSaid : Prop := fnAllOrNoneUptoRow.holds Try.pinned (OpenSpec.upto fnAllOrNoneSpec)

end Rows
end Go.Proofs.Ytbhlmgljflggeaa
