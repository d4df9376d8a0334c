/-
  No cell of these rows narrows 'for every input' (looked for: loops, veiled, ifaces, maps, wideKeys, modest, calm, conditions, laid).
  DERIVED. THE GIVEN ROWS OF THIS SEAT. 8 by the template 'for every input the law returns true; each argument reads behind the call as it read before'; 0 by the template 'total and deterministic' (their statements: YtjbfcdeddnnnmaaTotals.lean).
  GIVEN WITH THE SEED: the statements are not yours to turn. If you find one false, say at which input.
  Laid BY PROGRAM, IN A SANDBOX (cutbox-rows.mjs): the forced cells as the released guide's own fill.sh prints them over the translation 8efc1f98934764f1… (all of the seat's roots in one cut). By AI agents, Wed Nov 11 2026. No macro, syntax, notation, axiom, sorry.
-/
import Derived.Test.YtjbfcdeddnnnmaaChecked
import GoSem.Claim
import GoSem.ClaimJoined
import GoSem.ClaimMapViews
import Derived.JoinedTies
import Derived.KernelRfl
namespace Go.Proofs.Ytjbfcdeddnnnmaa
/- THE CELL 'sum', in the pinned program and in every row, IS THE sha256 OF THE DUMP (.gsa) THAT YtjbfcdeddnnnmaaProg.lean LOADS. Nothing in Lean hashes anything: it is a label: what it is worth is what the hold of that sum in a sandbox is worth. -/
noncomputable def Try.pinned : Pinned := { name := "ytjbfcdeddnnnmaa", sum := "8efc1f98934764f1d644e851f106bd72472f01d8ec902289df26b3503e59ea5a", checked := Try.checked }
namespace Rows
def none {H : Type} : Left H := { results := [], args := [] }

/-- 'laws.FnExactLeft5': WHATEVER THE INPUT: true; the input reads as it did. -/
def fnExactLeft5Spec : ChangeSpec := { name := "fnExactLeft5", fn := fun _ => fun
  | [d1, d2, d3] => { results := [.lit (.bool true)], args := [d1, d2, d3] }
  | _ => none }
def fnExactLeft5Row : OpenClaim := { program := "ytjbfcdeddnnnmaa", sum := "8efc1f98934764f1d644e851f106bd72472f01d8ec902289df26b3503e59ea5a", func := "loop.example/g00087/laws.FnExactLeft5", spec := "fnExactLeft5", apart := false }
def FnExactLeft5Said : Prop := fnExactLeft5Row.holds Try.pinned (OpenSpec.ofChange fnExactLeft5Spec)

/-- ITS FALSE NEIGHBOUR: 'it returns false'. Refute it at one input. -/
def fnExactLeft5Wrong : ChangeSpec := { name := "fnExactLeft5", fn := fun _ => fun
  | [d1, d2, d3] => { results := [.lit (.bool false)], args := [d1, d2, d3] }
  | _ => none }
def FnExactLeft5WrongFalsely : Prop := fnExactLeft5Row.holds Try.pinned (OpenSpec.ofChange fnExactLeft5Wrong)

/-- 'laws.FnExactScheduleOk': WHATEVER THE INPUT: true; the input reads as it did. -/
def fnExactScheduleOkSpec : ChangeSpec := { name := "fnExactScheduleOk", fn := fun _ => fun
  | [d] => { results := [.lit (.bool true)], args := [d] }
  | _ => none }
def fnExactScheduleOkRow : OpenClaim := { program := "ytjbfcdeddnnnmaa", sum := "8efc1f98934764f1d644e851f106bd72472f01d8ec902289df26b3503e59ea5a", func := "loop.example/g00087/laws.FnExactScheduleOk", spec := "fnExactScheduleOk", apart := false }
def FnExactScheduleOkSaid : Prop := fnExactScheduleOkRow.holds Try.pinned (OpenSpec.ofChange fnExactScheduleOkSpec)

/-- ITS FALSE NEIGHBOUR: 'it returns false'. Refute it at one input. -/
def fnExactScheduleOkWrong : ChangeSpec := { name := "fnExactScheduleOk", fn := fun _ => fun
  | [d] => { results := [.lit (.bool false)], args := [d] }
  | _ => none }
def FnExactScheduleOkWrongFalsely : Prop := fnExactScheduleOkRow.holds Try.pinned (OpenSpec.ofChange fnExactScheduleOkWrong)

/-- 'laws.FnExactFair': WHATEVER THE INPUT: true; the input reads as it did. -/
def fnExactFairSpec : ChangeSpec := { name := "fnExactFair", fn := fun _ => fun
  | [d1, d2, d3] => { results := [.lit (.bool true)], args := [d1, d2, d3] }
  | _ => none }
def fnExactFairRow : OpenClaim := { program := "ytjbfcdeddnnnmaa", sum := "8efc1f98934764f1d644e851f106bd72472f01d8ec902289df26b3503e59ea5a", func := "loop.example/g00087/laws.FnExactFair", spec := "fnExactFair", unfollowed := true, recurses := true, apart := false }
def FnExactFairSaid : Prop := fnExactFairRow.holds Try.pinned (OpenSpec.ofChange fnExactFairSpec)

/-- ITS FALSE NEIGHBOUR: 'it returns false'. Refute it at one input. -/
def fnExactFairWrong : ChangeSpec := { name := "fnExactFair", fn := fun _ => fun
  | [d1, d2, d3] => { results := [.lit (.bool false)], args := [d1, d2, d3] }
  | _ => none }
def FnExactFairWrongFalsely : Prop := fnExactFairRow.holds Try.pinned (OpenSpec.ofChange fnExactFairWrong)

/-- 'laws.FnExactWaysOf': WHATEVER THE INPUT: true; the input reads as it did. -/
def fnExactWaysOfSpec : ChangeSpec := { name := "fnExactWaysOf", fn := fun _ => fun
  | [d] => { results := [.lit (.bool true)], args := [d] }
  | _ => none }
def fnExactWaysOfRow : OpenClaim := { program := "ytjbfcdeddnnnmaa", sum := "8efc1f98934764f1d644e851f106bd72472f01d8ec902289df26b3503e59ea5a", func := "loop.example/g00087/laws.FnExactWaysOf", spec := "fnExactWaysOf", unfollowed := true, recurses := true, apart := false }
def FnExactWaysOfSaid : Prop := fnExactWaysOfRow.holds Try.pinned (OpenSpec.ofChange fnExactWaysOfSpec)

/-- ITS FALSE NEIGHBOUR: 'it returns false'. Refute it at one input. -/
def fnExactWaysOfWrong : ChangeSpec := { name := "fnExactWaysOf", fn := fun _ => fun
  | [d] => { results := [.lit (.bool false)], args := [d] }
  | _ => none }
def FnExactWaysOfWrongFalsely : Prop := fnExactWaysOfRow.holds Try.pinned (OpenSpec.ofChange fnExactWaysOfWrong)

/-- 'laws.FnExactOpenOk': WHATEVER THE INPUT: true; the input reads as it did. -/
def fnExactOpenOkSpec : ChangeSpec := { name := "fnExactOpenOk", fn := fun _ => fun
  | [d] => { results := [.lit (.bool true)], args := [d] }
  | _ => none }
def fnExactOpenOkRow : OpenClaim := { program := "ytjbfcdeddnnnmaa", sum := "8efc1f98934764f1d644e851f106bd72472f01d8ec902289df26b3503e59ea5a", func := "loop.example/g00087/laws.FnExactOpenOk", spec := "fnExactOpenOk", unfollowed := true, recurses := true, apart := false }
def FnExactOpenOkSaid : Prop := fnExactOpenOkRow.holds Try.pinned (OpenSpec.ofChange fnExactOpenOkSpec)

/-- ITS FALSE NEIGHBOUR: 'it returns false'. Refute it at one input. -/
def fnExactOpenOkWrong : ChangeSpec := { name := "fnExactOpenOk", fn := fun _ => fun
  | [d] => { results := [.lit (.bool false)], args := [d] }
  | _ => none }
def FnExactOpenOkWrongFalsely : Prop := fnExactOpenOkRow.holds Try.pinned (OpenSpec.ofChange fnExactOpenOkWrong)

/-- 'laws.FnExactOpened': WHATEVER THE INPUT: true; the input reads as it did. -/
def fnExactOpenedSpec : ChangeSpec := { name := "fnExactOpened", fn := fun _ => fun
  | [d1, d2] => { results := [.lit (.bool true)], args := [d1, d2] }
  | _ => none }
def fnExactOpenedRow : OpenClaim := { program := "ytjbfcdeddnnnmaa", sum := "8efc1f98934764f1d644e851f106bd72472f01d8ec902289df26b3503e59ea5a", func := "loop.example/g00087/laws.FnExactOpened", spec := "fnExactOpened", unfollowed := true, recurses := true, apart := false }
def FnExactOpenedSaid : Prop := fnExactOpenedRow.holds Try.pinned (OpenSpec.ofChange fnExactOpenedSpec)

/-- ITS FALSE NEIGHBOUR: 'it returns false'. Refute it at one input. -/
def fnExactOpenedWrong : ChangeSpec := { name := "fnExactOpened", fn := fun _ => fun
  | [d1, d2] => { results := [.lit (.bool false)], args := [d1, d2] }
  | _ => none }
def FnExactOpenedWrongFalsely : Prop := fnExactOpenedRow.holds Try.pinned (OpenSpec.ofChange fnExactOpenedWrong)

/-- 'laws.FnExactSteps': WHATEVER THE INPUT: true; the input reads as it did. -/
def fnExactStepsSpec : ChangeSpec := { name := "fnExactSteps", fn := fun _ => fun
  | [d] => { results := [.lit (.bool true)], args := [d] }
  | _ => none }
def fnExactStepsRow : OpenClaim := { program := "ytjbfcdeddnnnmaa", sum := "8efc1f98934764f1d644e851f106bd72472f01d8ec902289df26b3503e59ea5a", func := "loop.example/g00087/laws.FnExactSteps", spec := "fnExactSteps", apart := false }
def FnExactStepsSaid : Prop := fnExactStepsRow.holds Try.pinned (OpenSpec.ofChange fnExactStepsSpec)

/-- ITS FALSE NEIGHBOUR: 'it returns false'. Refute it at one input. -/
def fnExactStepsWrong : ChangeSpec := { name := "fnExactSteps", fn := fun _ => fun
  | [d] => { results := [.lit (.bool false)], args := [d] }
  | _ => none }
def FnExactStepsWrongFalsely : Prop := fnExactStepsRow.holds Try.pinned (OpenSpec.ofChange fnExactStepsWrong)

/-- 'laws.FnFair': WHATEVER THE INPUT: true; the input reads as it did. -/
def fnFairSpec : ChangeSpec := { name := "fnFair", fn := fun _ => fun
  | [d] => { results := [.lit (.bool true)], args := [d] }
  | _ => none }
def fnFairRow : OpenClaim := { program := "ytjbfcdeddnnnmaa", sum := "8efc1f98934764f1d644e851f106bd72472f01d8ec902289df26b3503e59ea5a", func := "loop.example/g00087/laws.FnFair", spec := "fnFair", unfollowed := true, recurses := true, apart := false }
def FnFairSaid : Prop := fnFairRow.holds Try.pinned (OpenSpec.ofChange fnFairSpec)

/-- ITS FALSE NEIGHBOUR: 'it returns false'. Refute it at one input. -/
def fnFairWrong : ChangeSpec := { name := "fnFair", fn := fun _ => fun
  | [d] => { results := [.lit (.bool false)], args := [d] }
  | _ => none }
def FnFairWrongFalsely : Prop := fnFairRow.holds Try.pinned (OpenSpec.ofChange fnFairWrong)

/- THE SECOND FORM. 'bulk': how many values and letters a reading holds, each counted each time it is reached (what is shared counts as often as it is met; a slice's spare places count too). A statement '..UptoSaid' is the law's where the arguments, and the package variables that the reading takes, are together of bulk at most 1048576: NARROWER than '..Said'. Prove '..Said' where nothing that the law and all that it calls make is longer than what came in: it says more and counts as full. Else prove '..UptoSaid'. A law counts once. -/
mutual
def uptoBulk {H : Type} : DataW H → Nat
  | .lit (.string bytes) => bytes.length + 1
  | .lit _ => 1
  | .nil => 1
  | .ptr d => uptoBulk d + 1
  | .slice elems spare => uptoBulkAll elems + uptoBulkAll spare + 1
  | .agg parts => uptoBulkAll parts + 1
  | .iface _ d => uptoBulk d + 1
  | .map entries => uptoBulkEntries entries + 1
  | .held _ => 1
def uptoBulkAll {H : Type} : List (DataW H) → Nat
  | [] => 0
  | d :: r => uptoBulk d + uptoBulkAll r
def uptoBulkEntries {H : Type} : List (Lit × DataW H) → Nat
  | [] => 0
  | x :: r => uptoBulkEntry x + uptoBulkEntries r
def uptoBulkEntry {H : Type} : Lit × DataW H → Nat
  | (.string bytes, d) => bytes.length + uptoBulk d + 1
  | (_, d) => uptoBulk d + 1
 end
def uptoSmall : (H : Type) → List (DataW H) → Bool := fun _ ds => decide (uptoBulkAll ds ≤ 1048576)
def OpenSpec.upto (s : _root_.Go.ChangeSpec) : _root_.Go.OpenSpec := { _root_.Go.OpenSpec.ofChange s with cond := some uptoSmall }

/-- 'laws.FnExactLeft5', WHERE WHAT IT READS IS OF BULK AT MOST 1048576: true; the input reads as it did. -/
def fnExactLeft5UptoRow : OpenClaim := { program := "ytjbfcdeddnnnmaa", sum := "8efc1f98934764f1d644e851f106bd72472f01d8ec902289df26b3503e59ea5a", func := "loop.example/g00087/laws.FnExactLeft5", spec := "fnExactLeft5", apart := false, narrowed := true }
def FnExactLeft5UptoSaid : Prop := fnExactLeft5UptoRow.holds Try.pinned (OpenSpec.upto fnExactLeft5Spec)

/-- 'laws.FnExactScheduleOk', WHERE WHAT IT READS IS OF BULK AT MOST 1048576: true; the input reads as it did. -/
def fnExactScheduleOkUptoRow : OpenClaim := { program := "ytjbfcdeddnnnmaa", sum := "8efc1f98934764f1d644e851f106bd72472f01d8ec902289df26b3503e59ea5a", func := "loop.example/g00087/laws.FnExactScheduleOk", spec := "fnExactScheduleOk", apart := false, narrowed := true }
def FnExactScheduleOkUptoSaid : Prop := fnExactScheduleOkUptoRow.holds Try.pinned (OpenSpec.upto fnExactScheduleOkSpec)

/-- 'laws.FnExactFair', WHERE WHAT IT READS IS OF BULK AT MOST 1048576: true; the input reads as it did. -/
def fnExactFairUptoRow : OpenClaim := { program := "ytjbfcdeddnnnmaa", sum := "8efc1f98934764f1d644e851f106bd72472f01d8ec902289df26b3503e59ea5a", func := "loop.example/g00087/laws.FnExactFair", spec := "fnExactFair", unfollowed := true, recurses := true, apart := false, narrowed := true }
def FnExactFairUptoSaid : Prop := fnExactFairUptoRow.holds Try.pinned (OpenSpec.upto fnExactFairSpec)

/-- 'laws.FnExactWaysOf', WHERE WHAT IT READS IS OF BULK AT MOST 1048576: true; the input reads as it did. -/
def fnExactWaysOfUptoRow : OpenClaim := { program := "ytjbfcdeddnnnmaa", sum := "8efc1f98934764f1d644e851f106bd72472f01d8ec902289df26b3503e59ea5a", func := "loop.example/g00087/laws.FnExactWaysOf", spec := "fnExactWaysOf", unfollowed := true, recurses := true, apart := false, narrowed := true }
def FnExactWaysOfUptoSaid : Prop := fnExactWaysOfUptoRow.holds Try.pinned (OpenSpec.upto fnExactWaysOfSpec)

/-- 'laws.FnExactOpenOk', WHERE WHAT IT READS IS OF BULK AT MOST 1048576: true; the input reads as it did. -/
def fnExactOpenOkUptoRow : OpenClaim := { program := "ytjbfcdeddnnnmaa", sum := "8efc1f98934764f1d644e851f106bd72472f01d8ec902289df26b3503e59ea5a", func := "loop.example/g00087/laws.FnExactOpenOk", spec := "fnExactOpenOk", unfollowed := true, recurses := true, apart := false, narrowed := true }
def FnExactOpenOkUptoSaid : Prop := fnExactOpenOkUptoRow.holds Try.pinned (OpenSpec.upto fnExactOpenOkSpec)

/-- 'laws.FnExactOpened', WHERE WHAT IT READS IS OF BULK AT MOST 1048576: true; the input reads as it did. -/
def fnExactOpenedUptoRow : OpenClaim := { program := "ytjbfcdeddnnnmaa", sum := "8efc1f98934764f1d644e851f106bd72472f01d8ec902289df26b3503e59ea5a", func := "loop.example/g00087/laws.FnExactOpened", spec := "fnExactOpened", unfollowed := true, recurses := true, apart := false, narrowed := true }
def FnExactOpenedUptoSaid : Prop := fnExactOpenedUptoRow.holds Try.pinned (OpenSpec.upto fnExactOpenedSpec)

/-- 'laws.FnExactSteps', WHERE WHAT IT READS IS OF BULK AT MOST 1048576: true; the input reads as it did. -/
def fnExactStepsUptoRow : OpenClaim := { program := "ytjbfcdeddnnnmaa", sum := "8efc1f98934764f1d644e851f106bd72472f01d8ec902289df26b3503e59ea5a", func := "loop.example/g00087/laws.FnExactSteps", spec := "fnExactSteps", apart := false, narrowed := true }
def FnExactStepsUptoSaid : Prop := fnExactStepsUptoRow.holds Try.pinned (OpenSpec.upto fnExactStepsSpec)

/-- 'laws.FnFair', WHERE WHAT IT READS IS OF BULK AT MOST 1048576: true; the input reads as it did. -/
def fnFairUptoRow : OpenClaim := { program := "ytjbfcdeddnnnmaa", sum := "8efc1f98934764f1d644e851f106bd72472f01d8ec902289df26b3503e59ea5a", func := "loop.example/g00087/laws.FnFair", spec := "fnFair", unfollowed := true, recurses := true, apart := false, narrowed := true }
def FnFairUptoSaid : Prop := fnFairUptoRow.holds Try.pinned (OpenSpec.upto fnFairSpec)

end Rows
end Go.Proofs.Ytjbfcdeddnnnmaa
