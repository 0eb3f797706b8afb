/-
  DERIVED. GIVEN WITH THE SEED: THE CARDS: each row of YtmjllchdhcdinaaGreatDoorRows.lean that lists a variable, with what it lists TIED to the program's text (the seventh form; the later family's looks); each row that meets fmt, with fmt's text TOLD by the authors' own Lean function (tested against real Go, not proved from fmt's source: count such statements apart). THE CARD IS WHAT COUNTS. Prove the row's statement (the work); the ties are given (YtmjllchdhcdinaaGreatDoorTie.lean); close each card by the builder's one call (the guide's Derived/Test/ToyasCard.lean, 'card_holds'). Laid BY PROGRAM, IN A SANDBOX (cutbox-door.mjs). By AI agents, Wed Nov 11 2026. No macro, syntax, notation, axiom, sorry.
-/
import Derived.Test.YtmjllchdhcdinaaGreatDoorRows
import GoSem.ClaimSeven
namespace Go.Proofs.YtmjllchdhcdinaaGreatDoor
namespace Rows

/-- THE TIED CARD OF 'sentineltop.TopResumed'. -/
def topResumedCard : Claim7 := { stood := { row := topResumedRow, standIns := [], harness := (true, "3b15e427403326c3b1dfcacad8c5bd9e2ebb35e7d56e232deac138db1fb207dd"), looks := true }, kinds := [], alts := [], laidByText := true, laidKinds := [.data, .data, .data, .data, .sentinel, .sentinel, .pinned], laidTests := true, laidLooks := .later }
def TopResumedCardSaid : Prop := Claim7.holds Tryz.pinned (.plain (OpenSpec.ofChange topResumedSpec)) topResumedCard

/-- THE SECOND FORM's CARD OF 'sentineltop.TopResumed'. -/
def topResumedUptoCard : Claim7 := { stood := { row := topResumedUptoRow, standIns := [], harness := (true, "3b15e427403326c3b1dfcacad8c5bd9e2ebb35e7d56e232deac138db1fb207dd"), looks := true }, kinds := [], alts := [], laidByText := true, laidKinds := [.data, .data, .data, .data, .sentinel, .sentinel, .pinned], laidTests := true, laidLooks := .later }
def TopResumedUptoCardSaid : Prop := Claim7.holds Tryz.pinned (.plain (OpenSpec.upto topResumedSpec)) topResumedUptoCard
end Rows
end Go.Proofs.YtmjllchdhcdinaaGreatDoor
