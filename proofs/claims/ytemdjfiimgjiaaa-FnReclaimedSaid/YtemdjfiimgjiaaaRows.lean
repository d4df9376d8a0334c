/-
  No cell of these rows narrows 'for every input' (looked for: loops, veiled, ifaces, maps, wideKeys, modest, calm, conditions, laid).
  DERIVED. THE GIVEN ROWS OF THIS SEAT. 10 by the template 'for every input the law returns true; each argument reads behind the call as it read before'; 0 by the template 'total and deterministic' (their statements: YtemdjfiimgjiaaaTotals.lean).
  GIVEN WITH THE SEED: the statements are not yours to turn. If you find one false, say at which input.
  Laid BY PROGRAM, IN A SANDBOX (cutbox-rows.mjs): the forced cells as the released guide's own fill.sh prints them over the translation 94a9808a37ba24a5… (all of the seat's roots in one cut). By AI agents, Wed Nov 11 2026. No macro, syntax, notation, axiom, sorry.
-/
import Derived.Test.YtemdjfiimgjiaaaChecked
import GoSem.Claim
import GoSem.ClaimJoined
import GoSem.ClaimMapViews
import Derived.JoinedTies
import Derived.KernelRfl
namespace Go.Proofs.Ytemdjfiimgjiaaa
/- THE CELL 'sum', in the pinned program and in every row, IS THE sha256 OF THE DUMP (.gsa) THAT YtemdjfiimgjiaaaProg.lean LOADS. Nothing in Lean hashes anything: it is a label: what it is worth is what the hold of that sum in a sandbox is worth. -/
noncomputable def Try.pinned : Pinned := { name := "ytemdjfiimgjiaaa", sum := "94a9808a37ba24a5155e63c7ab6b7018842891dbfa82d64c2eb866da51e8b6d9", checked := Try.checked }
namespace Rows
def none {H : Type} : Left H := { results := [], args := [] }

/-- 'laws.FnReclaimed': WHATEVER THE INPUT: true; the input reads as it did. -/
def fnReclaimedSpec : ChangeSpec := { name := "fnReclaimed", fn := fun _ => fun
  | [d] => { results := [.lit (.bool true)], args := [d] }
  | _ => none }
def fnReclaimedRow : OpenClaim := { program := "ytemdjfiimgjiaaa", sum := "94a9808a37ba24a5155e63c7ab6b7018842891dbfa82d64c2eb866da51e8b6d9", func := "loop.example/g00087/laws.FnReclaimed", spec := "fnReclaimed", unfollowed := true, recurses := true, apart := false }
def FnReclaimedSaid : Prop := fnReclaimedRow.holds Try.pinned (OpenSpec.ofChange fnReclaimedSpec)

/-- ITS FALSE NEIGHBOUR: 'it returns false'. Refute it at one input. -/
def fnReclaimedWrong : ChangeSpec := { name := "fnReclaimed", fn := fun _ => fun
  | [d] => { results := [.lit (.bool false)], args := [d] }
  | _ => none }
def FnReclaimedWrongFalsely : Prop := fnReclaimedRow.holds Try.pinned (OpenSpec.ofChange fnReclaimedWrong)

/-- 'laws.FnRetired': WHATEVER THE INPUT: true; the input reads as it did. -/
def fnRetiredSpec : ChangeSpec := { name := "fnRetired", fn := fun _ => fun
  | [d] => { results := [.lit (.bool true)], args := [d] }
  | _ => none }
def fnRetiredRow : OpenClaim := { program := "ytemdjfiimgjiaaa", sum := "94a9808a37ba24a5155e63c7ab6b7018842891dbfa82d64c2eb866da51e8b6d9", func := "loop.example/g00087/laws.FnRetired", spec := "fnRetired", unfollowed := true, recurses := true, apart := false }
def FnRetiredSaid : Prop := fnRetiredRow.holds Try.pinned (OpenSpec.ofChange fnRetiredSpec)

/-- ITS FALSE NEIGHBOUR: 'it returns false'. Refute it at one input. -/
def fnRetiredWrong : ChangeSpec := { name := "fnRetired", fn := fun _ => fun
  | [d] => { results := [.lit (.bool false)], args := [d] }
  | _ => none }
def FnRetiredWrongFalsely : Prop := fnRetiredRow.holds Try.pinned (OpenSpec.ofChange fnRetiredWrong)

/-- 'laws.FnExactNewYard': WHATEVER THE INPUT: true; the input reads as it did. -/
def fnExactNewYardSpec : ChangeSpec := { name := "fnExactNewYard", fn := fun _ => fun
  | [d1, d2] => { results := [.lit (.bool true)], args := [d1, d2] }
  | _ => none }
def fnExactNewYardRow : OpenClaim := { program := "ytemdjfiimgjiaaa", sum := "94a9808a37ba24a5155e63c7ab6b7018842891dbfa82d64c2eb866da51e8b6d9", func := "loop.example/g00087/laws.FnExactNewYard", spec := "fnExactNewYard", apart := false }
def FnExactNewYardSaid : Prop := fnExactNewYardRow.holds Try.pinned (OpenSpec.ofChange fnExactNewYardSpec)

/-- ITS FALSE NEIGHBOUR: 'it returns false'. Refute it at one input. -/
def fnExactNewYardWrong : ChangeSpec := { name := "fnExactNewYard", fn := fun _ => fun
  | [d1, d2] => { results := [.lit (.bool false)], args := [d1, d2] }
  | _ => none }
def FnExactNewYardWrongFalsely : Prop := fnExactNewYardRow.holds Try.pinned (OpenSpec.ofChange fnExactNewYardWrong)

/-- 'laws.FnExactYardOk': WHATEVER THE INPUT: true; the input reads as it did. -/
def fnExactYardOkSpec : ChangeSpec := { name := "fnExactYardOk", fn := fun _ => fun
  | [d] => { results := [.lit (.bool true)], args := [d] }
  | _ => none }
def fnExactYardOkRow : OpenClaim := { program := "ytemdjfiimgjiaaa", sum := "94a9808a37ba24a5155e63c7ab6b7018842891dbfa82d64c2eb866da51e8b6d9", func := "loop.example/g00087/laws.FnExactYardOk", spec := "fnExactYardOk", unfollowed := true, recurses := true, apart := false }
def FnExactYardOkSaid : Prop := fnExactYardOkRow.holds Try.pinned (OpenSpec.ofChange fnExactYardOkSpec)

/-- ITS FALSE NEIGHBOUR: 'it returns false'. Refute it at one input. -/
def fnExactYardOkWrong : ChangeSpec := { name := "fnExactYardOk", fn := fun _ => fun
  | [d] => { results := [.lit (.bool false)], args := [d] }
  | _ => none }
def FnExactYardOkWrongFalsely : Prop := fnExactYardOkRow.holds Try.pinned (OpenSpec.ofChange fnExactYardOkWrong)

/-- 'laws.FnExactClassOf': WHATEVER THE INPUT: true; the input reads as it did. -/
def fnExactClassOfSpec : ChangeSpec := { name := "fnExactClassOf", fn := fun _ => fun
  | [d1, d2] => { results := [.lit (.bool true)], args := [d1, d2] }
  | _ => none }
def fnExactClassOfRow : OpenClaim := { program := "ytemdjfiimgjiaaa", sum := "94a9808a37ba24a5155e63c7ab6b7018842891dbfa82d64c2eb866da51e8b6d9", func := "loop.example/g00087/laws.FnExactClassOf", spec := "fnExactClassOf", unfollowed := true, recurses := true, apart := false }
def FnExactClassOfSaid : Prop := fnExactClassOfRow.holds Try.pinned (OpenSpec.ofChange fnExactClassOfSpec)

/-- ITS FALSE NEIGHBOUR: 'it returns false'. Refute it at one input. -/
def fnExactClassOfWrong : ChangeSpec := { name := "fnExactClassOf", fn := fun _ => fun
  | [d1, d2] => { results := [.lit (.bool false)], args := [d1, d2] }
  | _ => none }
def FnExactClassOfWrongFalsely : Prop := fnExactClassOfRow.holds Try.pinned (OpenSpec.ofChange fnExactClassOfWrong)

/-- 'laws.FnExactCounts': WHATEVER THE INPUT: true; the input reads as it did. -/
def fnExactCountsSpec : ChangeSpec := { name := "fnExactCounts", fn := fun _ => fun
  | [d] => { results := [.lit (.bool true)], args := [d] }
  | _ => none }
def fnExactCountsRow : OpenClaim := { program := "ytemdjfiimgjiaaa", sum := "94a9808a37ba24a5155e63c7ab6b7018842891dbfa82d64c2eb866da51e8b6d9", func := "loop.example/g00087/laws.FnExactCounts", spec := "fnExactCounts", unfollowed := true, recurses := true, apart := false }
def FnExactCountsSaid : Prop := fnExactCountsRow.holds Try.pinned (OpenSpec.ofChange fnExactCountsSpec)

/-- ITS FALSE NEIGHBOUR: 'it returns false'. Refute it at one input. -/
def fnExactCountsWrong : ChangeSpec := { name := "fnExactCounts", fn := fun _ => fun
  | [d] => { results := [.lit (.bool false)], args := [d] }
  | _ => none }
def FnExactCountsWrongFalsely : Prop := fnExactCountsRow.holds Try.pinned (OpenSpec.ofChange fnExactCountsWrong)

/-- 'laws.FnExactRetire': WHATEVER THE INPUT: true; the input reads as it did. -/
def fnExactRetireSpec : ChangeSpec := { name := "fnExactRetire", fn := fun _ => fun
  | [d1, d2] => { results := [.lit (.bool true)], args := [d1, d2] }
  | _ => none }
def fnExactRetireRow : OpenClaim := { program := "ytemdjfiimgjiaaa", sum := "94a9808a37ba24a5155e63c7ab6b7018842891dbfa82d64c2eb866da51e8b6d9", func := "loop.example/g00087/laws.FnExactRetire", spec := "fnExactRetire", unfollowed := true, recurses := true, apart := false }
def FnExactRetireSaid : Prop := fnExactRetireRow.holds Try.pinned (OpenSpec.ofChange fnExactRetireSpec)

/-- ITS FALSE NEIGHBOUR: 'it returns false'. Refute it at one input. -/
def fnExactRetireWrong : ChangeSpec := { name := "fnExactRetire", fn := fun _ => fun
  | [d1, d2] => { results := [.lit (.bool false)], args := [d1, d2] }
  | _ => none }
def FnExactRetireWrongFalsely : Prop := fnExactRetireRow.holds Try.pinned (OpenSpec.ofChange fnExactRetireWrong)

/-- 'laws.FnExactPin': WHATEVER THE INPUT: true; the input reads as it did. -/
def fnExactPinSpec : ChangeSpec := { name := "fnExactPin", fn := fun _ => fun
  | [d1, d2] => { results := [.lit (.bool true)], args := [d1, d2] }
  | _ => none }
def fnExactPinRow : OpenClaim := { program := "ytemdjfiimgjiaaa", sum := "94a9808a37ba24a5155e63c7ab6b7018842891dbfa82d64c2eb866da51e8b6d9", func := "loop.example/g00087/laws.FnExactPin", spec := "fnExactPin", unfollowed := true, recurses := true, apart := false }
def FnExactPinSaid : Prop := fnExactPinRow.holds Try.pinned (OpenSpec.ofChange fnExactPinSpec)

/-- ITS FALSE NEIGHBOUR: 'it returns false'. Refute it at one input. -/
def fnExactPinWrong : ChangeSpec := { name := "fnExactPin", fn := fun _ => fun
  | [d1, d2] => { results := [.lit (.bool false)], args := [d1, d2] }
  | _ => none }
def FnExactPinWrongFalsely : Prop := fnExactPinRow.holds Try.pinned (OpenSpec.ofChange fnExactPinWrong)

/-- 'laws.FnExactUnpin': WHATEVER THE INPUT: true; the input reads as it did. -/
def fnExactUnpinSpec : ChangeSpec := { name := "fnExactUnpin", fn := fun _ => fun
  | [d1, d2] => { results := [.lit (.bool true)], args := [d1, d2] }
  | _ => none }
def fnExactUnpinRow : OpenClaim := { program := "ytemdjfiimgjiaaa", sum := "94a9808a37ba24a5155e63c7ab6b7018842891dbfa82d64c2eb866da51e8b6d9", func := "loop.example/g00087/laws.FnExactUnpin", spec := "fnExactUnpin", unfollowed := true, recurses := true, apart := false }
def FnExactUnpinSaid : Prop := fnExactUnpinRow.holds Try.pinned (OpenSpec.ofChange fnExactUnpinSpec)

/-- ITS FALSE NEIGHBOUR: 'it returns false'. Refute it at one input. -/
def fnExactUnpinWrong : ChangeSpec := { name := "fnExactUnpin", fn := fun _ => fun
  | [d1, d2] => { results := [.lit (.bool false)], args := [d1, d2] }
  | _ => none }
def FnExactUnpinWrongFalsely : Prop := fnExactUnpinRow.holds Try.pinned (OpenSpec.ofChange fnExactUnpinWrong)

/-- 'laws.FnExactPass': WHATEVER THE INPUT: true; the input reads as it did. -/
def fnExactPassSpec : ChangeSpec := { name := "fnExactPass", fn := fun _ => fun
  | [d] => { results := [.lit (.bool true)], args := [d] }
  | _ => none }
def fnExactPassRow : OpenClaim := { program := "ytemdjfiimgjiaaa", sum := "94a9808a37ba24a5155e63c7ab6b7018842891dbfa82d64c2eb866da51e8b6d9", func := "loop.example/g00087/laws.FnExactPass", spec := "fnExactPass", unfollowed := true, recurses := true, apart := false }
def FnExactPassSaid : Prop := fnExactPassRow.holds Try.pinned (OpenSpec.ofChange fnExactPassSpec)

/-- ITS FALSE NEIGHBOUR: 'it returns false'. Refute it at one input. -/
def fnExactPassWrong : ChangeSpec := { name := "fnExactPass", fn := fun _ => fun
  | [d] => { results := [.lit (.bool false)], args := [d] }
  | _ => none }
def FnExactPassWrongFalsely : Prop := fnExactPassRow.holds Try.pinned (OpenSpec.ofChange fnExactPassWrong)

/- THE SECOND FORM. 'bulk': how many values and letters a reading holds, each counted each time it is reached (what is shared counts as often as it is met; a slice's spare places count too). A statement '..UptoSaid' is the law's where the arguments, and the package variables that the reading takes, are together of bulk at most 1048576: NARROWER than '..Said'. Prove '..Said' where nothing that the law and all that it calls make is longer than what came in: it says more and counts as full. Else prove '..UptoSaid'. A law counts once. -/
mutual
def uptoBulk {H : Type} : DataW H → Nat
  | .lit (.string bytes) => bytes.length + 1
  | .lit _ => 1
  | .nil => 1
  | .ptr d => uptoBulk d + 1
  | .slice elems spare => uptoBulkAll elems + uptoBulkAll spare + 1
  | .agg parts => uptoBulkAll parts + 1
  | .iface _ d => uptoBulk d + 1
  | .map entries => uptoBulkEntries entries + 1
  | .held _ => 1
def uptoBulkAll {H : Type} : List (DataW H) → Nat
  | [] => 0
  | d :: r => uptoBulk d + uptoBulkAll r
def uptoBulkEntries {H : Type} : List (Lit × DataW H) → Nat
  | [] => 0
  | x :: r => uptoBulkEntry x + uptoBulkEntries r
def uptoBulkEntry {H : Type} : Lit × DataW H → Nat
  | (.string bytes, d) => bytes.length + uptoBulk d + 1
  | (_, d) => uptoBulk d + 1
 end
def uptoSmall : (H : Type) → List (DataW H) → Bool := fun _ ds => decide (uptoBulkAll ds ≤ 1048576)
def OpenSpec.upto (s : _root_.Go.ChangeSpec) : _root_.Go.OpenSpec := { _root_.Go.OpenSpec.ofChange s with cond := some uptoSmall }

/-- 'laws.FnReclaimed', WHERE WHAT IT READS IS OF BULK AT MOST 1048576: true; the input reads as it did. -/
def fnReclaimedUptoRow : OpenClaim := { program := "ytemdjfiimgjiaaa", sum := "94a9808a37ba24a5155e63c7ab6b7018842891dbfa82d64c2eb866da51e8b6d9", func := "loop.example/g00087/laws.FnReclaimed", spec := "fnReclaimed", unfollowed := true, recurses := true, apart := false, narrowed := true }
def FnReclaimedUptoSaid : Prop := fnReclaimedUptoRow.holds Try.pinned (OpenSpec.upto fnReclaimedSpec)

/-- 'laws.FnRetired', WHERE WHAT IT READS IS OF BULK AT MOST 1048576: true; the input reads as it did. -/
def fnRetiredUptoRow : OpenClaim := { program := "ytemdjfiimgjiaaa", sum := "94a9808a37ba24a5155e63c7ab6b7018842891dbfa82d64c2eb866da51e8b6d9", func := "loop.example/g00087/laws.FnRetired", spec := "fnRetired", unfollowed := true, recurses := true, apart := false, narrowed := true }
def FnRetiredUptoSaid : Prop := fnRetiredUptoRow.holds Try.pinned (OpenSpec.upto fnRetiredSpec)

/-- 'laws.FnExactNewYard', WHERE WHAT IT READS IS OF BULK AT MOST 1048576: true; the input reads as it did. -/
def fnExactNewYardUptoRow : OpenClaim := { program := "ytemdjfiimgjiaaa", sum := "94a9808a37ba24a5155e63c7ab6b7018842891dbfa82d64c2eb866da51e8b6d9", func := "loop.example/g00087/laws.FnExactNewYard", spec := "fnExactNewYard", apart := false, narrowed := true }
def FnExactNewYardUptoSaid : Prop := fnExactNewYardUptoRow.holds Try.pinned (OpenSpec.upto fnExactNewYardSpec)

/-- 'laws.FnExactYardOk', WHERE WHAT IT READS IS OF BULK AT MOST 1048576: true; the input reads as it did. -/
def fnExactYardOkUptoRow : OpenClaim := { program := "ytemdjfiimgjiaaa", sum := "94a9808a37ba24a5155e63c7ab6b7018842891dbfa82d64c2eb866da51e8b6d9", func := "loop.example/g00087/laws.FnExactYardOk", spec := "fnExactYardOk", unfollowed := true, recurses := true, apart := false, narrowed := true }
def FnExactYardOkUptoSaid : Prop := fnExactYardOkUptoRow.holds Try.pinned (OpenSpec.upto fnExactYardOkSpec)

/-- 'laws.FnExactClassOf', WHERE WHAT IT READS IS OF BULK AT MOST 1048576: true; the input reads as it did. -/
def fnExactClassOfUptoRow : OpenClaim := { program := "ytemdjfiimgjiaaa", sum := "94a9808a37ba24a5155e63c7ab6b7018842891dbfa82d64c2eb866da51e8b6d9", func := "loop.example/g00087/laws.FnExactClassOf", spec := "fnExactClassOf", unfollowed := true, recurses := true, apart := false, narrowed := true }
def FnExactClassOfUptoSaid : Prop := fnExactClassOfUptoRow.holds Try.pinned (OpenSpec.upto fnExactClassOfSpec)

/-- 'laws.FnExactCounts', WHERE WHAT IT READS IS OF BULK AT MOST 1048576: true; the input reads as it did. -/
def fnExactCountsUptoRow : OpenClaim := { program := "ytemdjfiimgjiaaa", sum := "94a9808a37ba24a5155e63c7ab6b7018842891dbfa82d64c2eb866da51e8b6d9", func := "loop.example/g00087/laws.FnExactCounts", spec := "fnExactCounts", unfollowed := true, recurses := true, apart := false, narrowed := true }
def FnExactCountsUptoSaid : Prop := fnExactCountsUptoRow.holds Try.pinned (OpenSpec.upto fnExactCountsSpec)

/-- 'laws.FnExactRetire', WHERE WHAT IT READS IS OF BULK AT MOST 1048576: true; the input reads as it did. -/
def fnExactRetireUptoRow : OpenClaim := { program := "ytemdjfiimgjiaaa", sum := "94a9808a37ba24a5155e63c7ab6b7018842891dbfa82d64c2eb866da51e8b6d9", func := "loop.example/g00087/laws.FnExactRetire", spec := "fnExactRetire", unfollowed := true, recurses := true, apart := false, narrowed := true }
def FnExactRetireUptoSaid : Prop := fnExactRetireUptoRow.holds Try.pinned (OpenSpec.upto fnExactRetireSpec)

/-- 'laws.FnExactPin', WHERE WHAT IT READS IS OF BULK AT MOST 1048576: true; the input reads as it did. -/
def fnExactPinUptoRow : OpenClaim := { program := "ytemdjfiimgjiaaa", sum := "94a9808a37ba24a5155e63c7ab6b7018842891dbfa82d64c2eb866da51e8b6d9", func := "loop.example/g00087/laws.FnExactPin", spec := "fnExactPin", unfollowed := true, recurses := true, apart := false, narrowed := true }
def FnExactPinUptoSaid : Prop := fnExactPinUptoRow.holds Try.pinned (OpenSpec.upto fnExactPinSpec)

/-- 'laws.FnExactUnpin', WHERE WHAT IT READS IS OF BULK AT MOST 1048576: true; the input reads as it did. -/
def fnExactUnpinUptoRow : OpenClaim := { program := "ytemdjfiimgjiaaa", sum := "94a9808a37ba24a5155e63c7ab6b7018842891dbfa82d64c2eb866da51e8b6d9", func := "loop.example/g00087/laws.FnExactUnpin", spec := "fnExactUnpin", unfollowed := true, recurses := true, apart := false, narrowed := true }
def FnExactUnpinUptoSaid : Prop := fnExactUnpinUptoRow.holds Try.pinned (OpenSpec.upto fnExactUnpinSpec)

/-- 'laws.FnExactPass', WHERE WHAT IT READS IS OF BULK AT MOST 1048576: true; the input reads as it did. -/
def fnExactPassUptoRow : OpenClaim := { program := "ytemdjfiimgjiaaa", sum := "94a9808a37ba24a5155e63c7ab6b7018842891dbfa82d64c2eb866da51e8b6d9", func := "loop.example/g00087/laws.FnExactPass", spec := "fnExactPass", unfollowed := true, recurses := true, apart := false, narrowed := true }
def FnExactPassUptoSaid : Prop := fnExactPassUptoRow.holds Try.pinned (OpenSpec.upto fnExactPassSpec)

end Rows
end Go.Proofs.Ytemdjfiimgjiaaa
