/-
  No cell of these rows narrows 'for every input' (looked for: loops, veiled, ifaces, maps, wideKeys, modest, calm, conditions, laid).
  DERIVED. THE GIVEN ROWS OF THIS SEAT. 8 by the template 'for every input the law returns true; each argument reads behind the call as it read before'; 0 by the template 'total and deterministic' (their statements: YtppidjpamaddhaaTotals.lean).
  GIVEN WITH THE SEED: the statements are not yours to turn. If you find one false, say at which input.
  Laid BY PROGRAM, IN A SANDBOX (cutbox-rows.mjs): the forced cells as the released guide's own fill.sh prints them over the translation 8d8ce30a3b11ab4f… (all of the seat's roots in one cut). By AI agents, Wed Nov 11 2026. No macro, syntax, notation, axiom, sorry.
-/
import Derived.Test.YtppidjpamaddhaaChecked
import GoSem.Claim
import GoSem.ClaimJoined
import GoSem.ClaimMapViews
import Derived.JoinedTies
import Derived.KernelRfl
namespace Go.Proofs.Ytppidjpamaddhaa
/- THE CELL 'sum', in the pinned program and in every row, IS THE sha256 OF THE DUMP (.gsa) THAT YtppidjpamaddhaaProg.lean LOADS. Nothing in Lean hashes anything: it is a label: what it is worth is what the hold of that sum in a sandbox is worth. -/
noncomputable def Try.pinned : Pinned := { name := "ytppidjpamaddhaa", sum := "8d8ce30a3b11ab4f51d14160154b9386ee90482569a26d45ba0472a75fda3448", checked := Try.checked }
namespace Rows
def none {H : Type} : Left H := { results := [], args := [] }

/-- 'laws.FnExactNewArena': WHATEVER THE INPUT: true; the input reads as it did. -/
def fnExactNewArenaSpec : ChangeSpec := { name := "fnExactNewArena", fn := fun _ => fun
  | [d] => { results := [.lit (.bool true)], args := [d] }
  | _ => none }
def fnExactNewArenaRow : OpenClaim := { program := "ytppidjpamaddhaa", sum := "8d8ce30a3b11ab4f51d14160154b9386ee90482569a26d45ba0472a75fda3448", func := "loop.example/g00087/laws.FnExactNewArena", spec := "fnExactNewArena", apart := false }
def FnExactNewArenaSaid : Prop := fnExactNewArenaRow.holds Try.pinned (OpenSpec.ofChange fnExactNewArenaSpec)

/-- ITS FALSE NEIGHBOUR: 'it returns false'. Refute it at one input. -/
def fnExactNewArenaWrong : ChangeSpec := { name := "fnExactNewArena", fn := fun _ => fun
  | [d] => { results := [.lit (.bool false)], args := [d] }
  | _ => none }
def FnExactNewArenaWrongFalsely : Prop := fnExactNewArenaRow.holds Try.pinned (OpenSpec.ofChange fnExactNewArenaWrong)

/-- 'laws.FnExactArenaOk': WHATEVER THE INPUT: true; the input reads as it did. -/
def fnExactArenaOkSpec : ChangeSpec := { name := "fnExactArenaOk", fn := fun _ => fun
  | [d] => { results := [.lit (.bool true)], args := [d] }
  | _ => none }
def fnExactArenaOkRow : OpenClaim := { program := "ytppidjpamaddhaa", sum := "8d8ce30a3b11ab4f51d14160154b9386ee90482569a26d45ba0472a75fda3448", func := "loop.example/g00087/laws.FnExactArenaOk", spec := "fnExactArenaOk", unfollowed := true, recurses := true, apart := false }
def FnExactArenaOkSaid : Prop := fnExactArenaOkRow.holds Try.pinned (OpenSpec.ofChange fnExactArenaOkSpec)

/-- ITS FALSE NEIGHBOUR: 'it returns false'. Refute it at one input. -/
def fnExactArenaOkWrong : ChangeSpec := { name := "fnExactArenaOk", fn := fun _ => fun
  | [d] => { results := [.lit (.bool false)], args := [d] }
  | _ => none }
def FnExactArenaOkWrongFalsely : Prop := fnExactArenaOkRow.holds Try.pinned (OpenSpec.ofChange fnExactArenaOkWrong)

/-- 'laws.FnExactLive': WHATEVER THE INPUT: true; the input reads as it did. -/
def fnExactLiveSpec : ChangeSpec := { name := "fnExactLive", fn := fun _ => fun
  | [d1, d2] => { results := [.lit (.bool true)], args := [d1, d2] }
  | _ => none }
def fnExactLiveRow : OpenClaim := { program := "ytppidjpamaddhaa", sum := "8d8ce30a3b11ab4f51d14160154b9386ee90482569a26d45ba0472a75fda3448", func := "loop.example/g00087/laws.FnExactLive", spec := "fnExactLive", unfollowed := true, recurses := true, apart := false }
def FnExactLiveSaid : Prop := fnExactLiveRow.holds Try.pinned (OpenSpec.ofChange fnExactLiveSpec)

/-- ITS FALSE NEIGHBOUR: 'it returns false'. Refute it at one input. -/
def fnExactLiveWrong : ChangeSpec := { name := "fnExactLive", fn := fun _ => fun
  | [d1, d2] => { results := [.lit (.bool false)], args := [d1, d2] }
  | _ => none }
def FnExactLiveWrongFalsely : Prop := fnExactLiveRow.holds Try.pinned (OpenSpec.ofChange fnExactLiveWrong)

/-- 'laws.FnExactSpent': WHATEVER THE INPUT: true; the input reads as it did. -/
def fnExactSpentSpec : ChangeSpec := { name := "fnExactSpent", fn := fun _ => fun
  | [d] => { results := [.lit (.bool true)], args := [d] }
  | _ => none }
def fnExactSpentRow : OpenClaim := { program := "ytppidjpamaddhaa", sum := "8d8ce30a3b11ab4f51d14160154b9386ee90482569a26d45ba0472a75fda3448", func := "loop.example/g00087/laws.FnExactSpent", spec := "fnExactSpent", unfollowed := true, recurses := true, apart := false }
def FnExactSpentSaid : Prop := fnExactSpentRow.holds Try.pinned (OpenSpec.ofChange fnExactSpentSpec)

/-- ITS FALSE NEIGHBOUR: 'it returns false'. Refute it at one input. -/
def fnExactSpentWrong : ChangeSpec := { name := "fnExactSpent", fn := fun _ => fun
  | [d] => { results := [.lit (.bool false)], args := [d] }
  | _ => none }
def FnExactSpentWrongFalsely : Prop := fnExactSpentRow.holds Try.pinned (OpenSpec.ofChange fnExactSpentWrong)

/-- 'laws.FnExactGet': WHATEVER THE INPUT: true; the input reads as it did. -/
def fnExactGetSpec : ChangeSpec := { name := "fnExactGet", fn := fun _ => fun
  | [d1, d2, d3] => { results := [.lit (.bool true)], args := [d1, d2, d3] }
  | _ => none }
def fnExactGetRow : OpenClaim := { program := "ytppidjpamaddhaa", sum := "8d8ce30a3b11ab4f51d14160154b9386ee90482569a26d45ba0472a75fda3448", func := "loop.example/g00087/laws.FnExactGet", spec := "fnExactGet", unfollowed := true, recurses := true, apart := false }
def FnExactGetSaid : Prop := fnExactGetRow.holds Try.pinned (OpenSpec.ofChange fnExactGetSpec)

/-- ITS FALSE NEIGHBOUR: 'it returns false'. Refute it at one input. -/
def fnExactGetWrong : ChangeSpec := { name := "fnExactGet", fn := fun _ => fun
  | [d1, d2, d3] => { results := [.lit (.bool false)], args := [d1, d2, d3] }
  | _ => none }
def FnExactGetWrongFalsely : Prop := fnExactGetRow.holds Try.pinned (OpenSpec.ofChange fnExactGetWrong)

/-- 'laws.FnExactTake': WHATEVER THE INPUT: true; the input reads as it did. -/
def fnExactTakeSpec : ChangeSpec := { name := "fnExactTake", fn := fun _ => fun
  | [d] => { results := [.lit (.bool true)], args := [d] }
  | _ => none }
def fnExactTakeRow : OpenClaim := { program := "ytppidjpamaddhaa", sum := "8d8ce30a3b11ab4f51d14160154b9386ee90482569a26d45ba0472a75fda3448", func := "loop.example/g00087/laws.FnExactTake", spec := "fnExactTake", unfollowed := true, recurses := true, apart := false }
def FnExactTakeSaid : Prop := fnExactTakeRow.holds Try.pinned (OpenSpec.ofChange fnExactTakeSpec)

/-- ITS FALSE NEIGHBOUR: 'it returns false'. Refute it at one input. -/
def fnExactTakeWrong : ChangeSpec := { name := "fnExactTake", fn := fun _ => fun
  | [d] => { results := [.lit (.bool false)], args := [d] }
  | _ => none }
def FnExactTakeWrongFalsely : Prop := fnExactTakeRow.holds Try.pinned (OpenSpec.ofChange fnExactTakeWrong)

/-- 'laws.FnExactPut': WHATEVER THE INPUT: true; the input reads as it did. -/
def fnExactPutSpec : ChangeSpec := { name := "fnExactPut", fn := fun _ => fun
  | [d1, d2, d3, d4] => { results := [.lit (.bool true)], args := [d1, d2, d3, d4] }
  | _ => none }
def fnExactPutRow : OpenClaim := { program := "ytppidjpamaddhaa", sum := "8d8ce30a3b11ab4f51d14160154b9386ee90482569a26d45ba0472a75fda3448", func := "loop.example/g00087/laws.FnExactPut", spec := "fnExactPut", unfollowed := true, recurses := true, apart := false }
def FnExactPutSaid : Prop := fnExactPutRow.holds Try.pinned (OpenSpec.ofChange fnExactPutSpec)

/-- ITS FALSE NEIGHBOUR: 'it returns false'. Refute it at one input. -/
def fnExactPutWrong : ChangeSpec := { name := "fnExactPut", fn := fun _ => fun
  | [d1, d2, d3, d4] => { results := [.lit (.bool false)], args := [d1, d2, d3, d4] }
  | _ => none }
def FnExactPutWrongFalsely : Prop := fnExactPutRow.holds Try.pinned (OpenSpec.ofChange fnExactPutWrong)

/-- 'laws.FnExactGive': WHATEVER THE INPUT: true; the input reads as it did. -/
def fnExactGiveSpec : ChangeSpec := { name := "fnExactGive", fn := fun _ => fun
  | [d1, d2] => { results := [.lit (.bool true)], args := [d1, d2] }
  | _ => none }
def fnExactGiveRow : OpenClaim := { program := "ytppidjpamaddhaa", sum := "8d8ce30a3b11ab4f51d14160154b9386ee90482569a26d45ba0472a75fda3448", func := "loop.example/g00087/laws.FnExactGive", spec := "fnExactGive", unfollowed := true, recurses := true, apart := false }
def FnExactGiveSaid : Prop := fnExactGiveRow.holds Try.pinned (OpenSpec.ofChange fnExactGiveSpec)

/-- ITS FALSE NEIGHBOUR: 'it returns false'. Refute it at one input. -/
def fnExactGiveWrong : ChangeSpec := { name := "fnExactGive", fn := fun _ => fun
  | [d1, d2] => { results := [.lit (.bool false)], args := [d1, d2] }
  | _ => none }
def FnExactGiveWrongFalsely : Prop := fnExactGiveRow.holds Try.pinned (OpenSpec.ofChange fnExactGiveWrong)

/- THE SECOND FORM. 'bulk': how many values and letters a reading holds, each counted each time it is reached (what is shared counts as often as it is met; a slice's spare places count too). A statement '..UptoSaid' is the law's where the arguments, and the package variables that the reading takes, are together of bulk at most 1048576: NARROWER than '..Said'. Prove '..Said' where nothing that the law and all that it calls make is longer than what came in: it says more and counts as full. Else prove '..UptoSaid'. A law counts once. -/
mutual
def uptoBulk {H : Type} : DataW H → Nat
  | .lit (.string bytes) => bytes.length + 1
  | .lit _ => 1
  | .nil => 1
  | .ptr d => uptoBulk d + 1
  | .slice elems spare => uptoBulkAll elems + uptoBulkAll spare + 1
  | .agg parts => uptoBulkAll parts + 1
  | .iface _ d => uptoBulk d + 1
  | .map entries => uptoBulkEntries entries + 1
  | .held _ => 1
def uptoBulkAll {H : Type} : List (DataW H) → Nat
  | [] => 0
  | d :: r => uptoBulk d + uptoBulkAll r
def uptoBulkEntries {H : Type} : List (Lit × DataW H) → Nat
  | [] => 0
  | x :: r => uptoBulkEntry x + uptoBulkEntries r
def uptoBulkEntry {H : Type} : Lit × DataW H → Nat
  | (.string bytes, d) => bytes.length + uptoBulk d + 1
  | (_, d) => uptoBulk d + 1
 end
def uptoSmall : (H : Type) → List (DataW H) → Bool := fun _ ds => decide (uptoBulkAll ds ≤ 1048576)
def OpenSpec.upto (s : _root_.Go.ChangeSpec) : _root_.Go.OpenSpec := { _root_.Go.OpenSpec.ofChange s with cond := some uptoSmall }

/-- 'laws.FnExactNewArena', WHERE WHAT IT READS IS OF BULK AT MOST 1048576: true; the input reads as it did. -/
def fnExactNewArenaUptoRow : OpenClaim := { program := "ytppidjpamaddhaa", sum := "8d8ce30a3b11ab4f51d14160154b9386ee90482569a26d45ba0472a75fda3448", func := "loop.example/g00087/laws.FnExactNewArena", spec := "fnExactNewArena", apart := false, narrowed := true }
def FnExactNewArenaUptoSaid : Prop := fnExactNewArenaUptoRow.holds Try.pinned (OpenSpec.upto fnExactNewArenaSpec)

/-- 'laws.FnExactArenaOk', WHERE WHAT IT READS IS OF BULK AT MOST 1048576: true; the input reads as it did. -/
def fnExactArenaOkUptoRow : OpenClaim := { program := "ytppidjpamaddhaa", sum := "8d8ce30a3b11ab4f51d14160154b9386ee90482569a26d45ba0472a75fda3448", func := "loop.example/g00087/laws.FnExactArenaOk", spec := "fnExactArenaOk", unfollowed := true, recurses := true, apart := false, narrowed := true }
def FnExactArenaOkUptoSaid : Prop := fnExactArenaOkUptoRow.holds Try.pinned (OpenSpec.upto fnExactArenaOkSpec)

/-- 'laws.FnExactLive', WHERE WHAT IT READS IS OF BULK AT MOST 1048576: true; the input reads as it did. -/
def fnExactLiveUptoRow : OpenClaim := { program := "ytppidjpamaddhaa", sum := "8d8ce30a3b11ab4f51d14160154b9386ee90482569a26d45ba0472a75fda3448", func := "loop.example/g00087/laws.FnExactLive", spec := "fnExactLive", unfollowed := true, recurses := true, apart := false, narrowed := true }
def FnExactLiveUptoSaid : Prop := fnExactLiveUptoRow.holds Try.pinned (OpenSpec.upto fnExactLiveSpec)

/-- 'laws.FnExactSpent', WHERE WHAT IT READS IS OF BULK AT MOST 1048576: true; the input reads as it did. -/
def fnExactSpentUptoRow : OpenClaim := { program := "ytppidjpamaddhaa", sum := "8d8ce30a3b11ab4f51d14160154b9386ee90482569a26d45ba0472a75fda3448", func := "loop.example/g00087/laws.FnExactSpent", spec := "fnExactSpent", unfollowed := true, recurses := true, apart := false, narrowed := true }
def FnExactSpentUptoSaid : Prop := fnExactSpentUptoRow.holds Try.pinned (OpenSpec.upto fnExactSpentSpec)

/-- 'laws.FnExactGet', WHERE WHAT IT READS IS OF BULK AT MOST 1048576: true; the input reads as it did. -/
def fnExactGetUptoRow : OpenClaim := { program := "ytppidjpamaddhaa", sum := "8d8ce30a3b11ab4f51d14160154b9386ee90482569a26d45ba0472a75fda3448", func := "loop.example/g00087/laws.FnExactGet", spec := "fnExactGet", unfollowed := true, recurses := true, apart := false, narrowed := true }
def FnExactGetUptoSaid : Prop := fnExactGetUptoRow.holds Try.pinned (OpenSpec.upto fnExactGetSpec)

/-- 'laws.FnExactTake', WHERE WHAT IT READS IS OF BULK AT MOST 1048576: true; the input reads as it did. -/
def fnExactTakeUptoRow : OpenClaim := { program := "ytppidjpamaddhaa", sum := "8d8ce30a3b11ab4f51d14160154b9386ee90482569a26d45ba0472a75fda3448", func := "loop.example/g00087/laws.FnExactTake", spec := "fnExactTake", unfollowed := true, recurses := true, apart := false, narrowed := true }
def FnExactTakeUptoSaid : Prop := fnExactTakeUptoRow.holds Try.pinned (OpenSpec.upto fnExactTakeSpec)

/-- 'laws.FnExactPut', WHERE WHAT IT READS IS OF BULK AT MOST 1048576: true; the input reads as it did. -/
def fnExactPutUptoRow : OpenClaim := { program := "ytppidjpamaddhaa", sum := "8d8ce30a3b11ab4f51d14160154b9386ee90482569a26d45ba0472a75fda3448", func := "loop.example/g00087/laws.FnExactPut", spec := "fnExactPut", unfollowed := true, recurses := true, apart := false, narrowed := true }
def FnExactPutUptoSaid : Prop := fnExactPutUptoRow.holds Try.pinned (OpenSpec.upto fnExactPutSpec)

/-- 'laws.FnExactGive', WHERE WHAT IT READS IS OF BULK AT MOST 1048576: true; the input reads as it did. -/
def fnExactGiveUptoRow : OpenClaim := { program := "ytppidjpamaddhaa", sum := "8d8ce30a3b11ab4f51d14160154b9386ee90482569a26d45ba0472a75fda3448", func := "loop.example/g00087/laws.FnExactGive", spec := "fnExactGive", unfollowed := true, recurses := true, apart := false, narrowed := true }
def FnExactGiveUptoSaid : Prop := fnExactGiveUptoRow.holds Try.pinned (OpenSpec.upto fnExactGiveSpec)

end Rows
end Go.Proofs.Ytppidjpamaddhaa
