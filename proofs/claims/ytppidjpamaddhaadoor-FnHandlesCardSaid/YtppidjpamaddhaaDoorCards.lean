/-
  DERIVED. GIVEN WITH THE SEED: THE CARDS: each row of YtppidjpamaddhaaDoorRows.lean that lists a variable, with what it lists TIED to the program's text (the seventh form; the later family's looks); each row that meets fmt, with fmt's text TOLD by the authors' own Lean function (tested against real Go, not proved from fmt's source: count such statements apart). THE CARD IS WHAT COUNTS. Prove the row's statement (the work); the ties are given (YtppidjpamaddhaaDoorTie.lean); close each card by the builder's one call (the guide's Derived/Test/ToyasCard.lean, 'card_holds'). Laid BY PROGRAM, IN A SANDBOX (cutbox-door.mjs). By AI agents, Wed Nov 11 2026. No macro, syntax, notation, axiom, sorry.
-/
import Derived.Test.YtppidjpamaddhaaDoorRows
import GoSem.ClaimSeven
namespace Go.Proofs.YtppidjpamaddhaaDoor
namespace Rows

/-- THE TIED CARD OF 'laws.FnExactHandleText'. -/
def fnExactHandleTextCard : Claim7 := { stood := { row := fnExactHandleTextRow, standIns := [], harness := (true, "665210fed596a103c72c6d4b72c95c8014bc61dc8f46acf1712a865fab47a885"), looks := false }, kinds := [], alts := [], laidByText := true, laidKinds := [.data, .data, .data], laidTests := true, laidLooks := .later }
def FnExactHandleTextCardSaid : Prop := Claim7.holds Tryd.pinned (.plain (OpenSpec.ofChange fnExactHandleTextSpec)) fnExactHandleTextCard

/-- THE TIED CARD OF 'laws.FnHandles'. -/
def fnHandlesCard : Claim7 := { stood := { row := fnHandlesRow, standIns := [], harness := (true, "665210fed596a103c72c6d4b72c95c8014bc61dc8f46acf1712a865fab47a885"), looks := false }, kinds := [], alts := [], laidByText := true, laidKinds := [.data, .data, .data], laidTests := true, laidLooks := .later }
def FnHandlesCardSaid : Prop := Claim7.holds Tryd.pinned (.plain (OpenSpec.ofChange fnHandlesSpec)) fnHandlesCard

/-- THE SECOND FORM's CARD OF 'laws.FnExactHandleText'. -/
def fnExactHandleTextUptoCard : Claim7 := { stood := { row := fnExactHandleTextUptoRow, standIns := [], harness := (true, "665210fed596a103c72c6d4b72c95c8014bc61dc8f46acf1712a865fab47a885"), looks := false }, kinds := [], alts := [], laidByText := true, laidKinds := [.data, .data, .data], laidTests := true, laidLooks := .later }
def FnExactHandleTextUptoCardSaid : Prop := Claim7.holds Tryd.pinned (.plain (OpenSpec.upto fnExactHandleTextSpec)) fnExactHandleTextUptoCard

/-- THE SECOND FORM's CARD OF 'laws.FnHandles'. -/
def fnHandlesUptoCard : Claim7 := { stood := { row := fnHandlesUptoRow, standIns := [], harness := (true, "665210fed596a103c72c6d4b72c95c8014bc61dc8f46acf1712a865fab47a885"), looks := false }, kinds := [], alts := [], laidByText := true, laidKinds := [.data, .data, .data], laidTests := true, laidLooks := .later }
def FnHandlesUptoCardSaid : Prop := Claim7.holds Tryd.pinned (.plain (OpenSpec.upto fnHandlesSpec)) fnHandlesUptoCard
end Rows
end Go.Proofs.YtppidjpamaddhaaDoor
