/-
  DERIVED. GIVEN WITH THE SEED: THE CARDS: each row of YtgedkcglkhleoaaGreatDoorRows.lean that lists a variable, with what it lists TIED to the program's text (the seventh form; the later family's looks); each row that meets fmt, with fmt's text TOLD by the authors' own Lean function (tested against real Go, not proved from fmt's source: count such statements apart). THE CARD IS WHAT COUNTS. Prove the row's statement (the work); the ties are given (YtgedkcglkhleoaaGreatDoorTie.lean); close each card by the builder's one call (the guide's Derived/Test/ToyasCard.lean, 'card_holds'). Laid BY PROGRAM, IN A SANDBOX (cutbox-door.mjs). By AI agents, Wed Nov 11 2026. No macro, syntax, notation, axiom, sorry.
-/
import Derived.Test.YtgedkcglkhleoaaGreatDoorRows
import GoSem.ClaimSeven
namespace Go.Proofs.YtgedkcglkhleoaaGreatDoor
namespace Rows

/-- THE TIED CARD OF 'siskinlaw39.EventSteps'. -/
def eventStepsCard : Claim7 := { stood := { row := eventStepsRow, standIns := [], harness := (true, "f1c985de9eafac04dae742f724583f9d45691dfb7cd1caba27d43dcfd1605b8b"), looks := true }, kinds := [], alts := [], laidByText := true, laidKinds := [.data, .data, .data], laidTests := true, laidLooks := .later }
def EventStepsCardSaid : Prop := Claim7.holds Tryz.pinned (.plain (OpenSpec.ofChange eventStepsSpec)) eventStepsCard

/-- THE TIED CARD OF 'siskinlaw39.EventRuns'. -/
def eventRunsCard : Claim7 := { stood := { row := eventRunsRow, standIns := [], harness := (true, "f1c985de9eafac04dae742f724583f9d45691dfb7cd1caba27d43dcfd1605b8b"), looks := true }, kinds := [], alts := [], laidByText := true, laidKinds := [.data, .data, .data], laidTests := true, laidLooks := .later }
def EventRunsCardSaid : Prop := Claim7.holds Tryz.pinned (.plain (OpenSpec.ofChange eventRunsSpec)) eventRunsCard

/-- THE SECOND FORM's CARD OF 'siskinlaw39.EventSteps'. -/
def eventStepsUptoCard : Claim7 := { stood := { row := eventStepsUptoRow, standIns := [], harness := (true, "f1c985de9eafac04dae742f724583f9d45691dfb7cd1caba27d43dcfd1605b8b"), looks := true }, kinds := [], alts := [], laidByText := true, laidKinds := [.data, .data, .data], laidTests := true, laidLooks := .later }
def EventStepsUptoCardSaid : Prop := Claim7.holds Tryz.pinned (.plain (OpenSpec.upto eventStepsSpec)) eventStepsUptoCard

/-- THE SECOND FORM's CARD OF 'siskinlaw39.EventRuns'. -/
def eventRunsUptoCard : Claim7 := { stood := { row := eventRunsUptoRow, standIns := [], harness := (true, "f1c985de9eafac04dae742f724583f9d45691dfb7cd1caba27d43dcfd1605b8b"), looks := true }, kinds := [], alts := [], laidByText := true, laidKinds := [.data, .data, .data], laidTests := true, laidLooks := .later }
def EventRunsUptoCardSaid : Prop := Claim7.holds Tryz.pinned (.plain (OpenSpec.upto eventRunsSpec)) eventRunsUptoCard
end Rows
end Go.Proofs.YtgedkcglkhleoaaGreatDoor
