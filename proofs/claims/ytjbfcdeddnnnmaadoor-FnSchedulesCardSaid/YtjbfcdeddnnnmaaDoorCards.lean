/-
  DERIVED. GIVEN WITH THE SEED: THE CARDS: each row of YtjbfcdeddnnnmaaDoorRows.lean that lists a variable, with what it lists TIED to the program's text (the seventh form; the later family's looks); each row that meets fmt, with fmt's text TOLD by the authors' own Lean function (tested against real Go, not proved from fmt's source: count such statements apart). THE CARD IS WHAT COUNTS. Prove the row's statement (the work); the ties are given (YtjbfcdeddnnnmaaDoorTie.lean); close each card by the builder's one call (the guide's Derived/Test/ToyasCard.lean, 'card_holds'). Laid BY PROGRAM, IN A SANDBOX (cutbox-door.mjs). By AI agents, Wed Nov 11 2026. No macro, syntax, notation, axiom, sorry.
-/
import Derived.Test.YtjbfcdeddnnnmaaDoorRows
import GoSem.ClaimSeven
namespace Go.Proofs.YtjbfcdeddnnnmaaDoor
namespace Rows

/-- THE TIED CARD OF 'laws.FnExactWriteSchedule'. -/
def fnExactWriteScheduleCard : Claim7 := { stood := { row := fnExactWriteScheduleRow, standIns := [], harness := (true, "c9706e48b9a3a9bd16678350f5e61d46afed509d11c5d306752fe818e6294723"), looks := true }, kinds := [], alts := [], laidByText := true, laidKinds := [.data, .data, .data], laidTests := true, laidLooks := .later }
def FnExactWriteScheduleCardSaid : Prop := Claim7.holds Tryd.pinned (.plain (OpenSpec.ofChange fnExactWriteScheduleSpec)) fnExactWriteScheduleCard

/-- THE TIED CARD OF 'laws.FnExactReadSchedule'. -/
def fnExactReadScheduleCard : Claim7 := { stood := { row := fnExactReadScheduleRow, standIns := [], harness := (true, "c9706e48b9a3a9bd16678350f5e61d46afed509d11c5d306752fe818e6294723"), looks := true }, kinds := [], alts := [], laidByText := true, laidKinds := [.data, .data, .data, .data, .sentinel, .sentinel, .pinned], laidTests := true, laidLooks := .later }
def FnExactReadScheduleCardSaid : Prop := Claim7.holds Tryd.pinned (.plain (OpenSpec.ofChange fnExactReadScheduleSpec)) fnExactReadScheduleCard

/-- THE TIED CARD OF 'laws.FnSchedules'. -/
def fnSchedulesCard : Claim7 := { stood := { row := fnSchedulesRow, standIns := [], harness := (true, "c9706e48b9a3a9bd16678350f5e61d46afed509d11c5d306752fe818e6294723"), looks := true }, kinds := [], alts := [], laidByText := true, laidKinds := [.data, .data, .data, .data, .sentinel, .sentinel, .pinned], laidTests := true, laidLooks := .later }
def FnSchedulesCardSaid : Prop := Claim7.holds Tryd.pinned (.plain (OpenSpec.ofChange fnSchedulesSpec)) fnSchedulesCard

/-- THE SECOND FORM's CARD OF 'laws.FnExactWriteSchedule'. -/
def fnExactWriteScheduleUptoCard : Claim7 := { stood := { row := fnExactWriteScheduleUptoRow, standIns := [], harness := (true, "c9706e48b9a3a9bd16678350f5e61d46afed509d11c5d306752fe818e6294723"), looks := true }, kinds := [], alts := [], laidByText := true, laidKinds := [.data, .data, .data], laidTests := true, laidLooks := .later }
def FnExactWriteScheduleUptoCardSaid : Prop := Claim7.holds Tryd.pinned (.plain (OpenSpec.upto fnExactWriteScheduleSpec)) fnExactWriteScheduleUptoCard

/-- THE SECOND FORM's CARD OF 'laws.FnExactReadSchedule'. -/
def fnExactReadScheduleUptoCard : Claim7 := { stood := { row := fnExactReadScheduleUptoRow, standIns := [], harness := (true, "c9706e48b9a3a9bd16678350f5e61d46afed509d11c5d306752fe818e6294723"), looks := true }, kinds := [], alts := [], laidByText := true, laidKinds := [.data, .data, .data, .data, .sentinel, .sentinel, .pinned], laidTests := true, laidLooks := .later }
def FnExactReadScheduleUptoCardSaid : Prop := Claim7.holds Tryd.pinned (.plain (OpenSpec.upto fnExactReadScheduleSpec)) fnExactReadScheduleUptoCard

/-- THE SECOND FORM's CARD OF 'laws.FnSchedules'. -/
def fnSchedulesUptoCard : Claim7 := { stood := { row := fnSchedulesUptoRow, standIns := [], harness := (true, "c9706e48b9a3a9bd16678350f5e61d46afed509d11c5d306752fe818e6294723"), looks := true }, kinds := [], alts := [], laidByText := true, laidKinds := [.data, .data, .data, .data, .sentinel, .sentinel, .pinned], laidTests := true, laidLooks := .later }
def FnSchedulesUptoCardSaid : Prop := Claim7.holds Tryd.pinned (.plain (OpenSpec.upto fnSchedulesSpec)) fnSchedulesUptoCard
end Rows
end Go.Proofs.YtjbfcdeddnnnmaaDoor
