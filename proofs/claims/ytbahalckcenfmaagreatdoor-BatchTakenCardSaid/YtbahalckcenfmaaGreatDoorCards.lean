/-
  DERIVED. GIVEN WITH THE SEED: THE CARDS: each row of YtbahalckcenfmaaGreatDoorRows.lean that lists a variable, with what it lists TIED to the program's text (the seventh form; the later family's looks); each row that meets fmt, with fmt's text TOLD by the authors' own Lean function (tested against real Go, not proved from fmt's source: count such statements apart). THE CARD IS WHAT COUNTS. Prove the row's statement (the work); the ties are given (YtbahalckcenfmaaGreatDoorTie.lean); close each card by the builder's one call (the guide's Derived/Test/ToyasCard.lean, 'card_holds'). Laid BY PROGRAM, IN A SANDBOX (cutbox-door.mjs). By AI agents, Wed Nov 11 2026. No macro, syntax, notation, axiom, sorry.
-/
import Derived.Test.YtbahalckcenfmaaGreatDoorRows
import GoSem.ClaimSeven
namespace Go.Proofs.YtbahalckcenfmaaGreatDoor
namespace Rows

/-- THE TIED CARD OF 'packtrainkeep.BatchTaken'. -/
def batchTakenCard : Claim7 := { stood := { row := batchTakenRow, standIns := [], harness := (true, "99f32ea3e92d32bf1b4808065185e23140251fa3248e8a77d6d81391338b9001"), looks := true }, kinds := [], alts := [], laidByText := true, laidKinds := [.handle], laidTests := true, laidLooks := .later }
def BatchTakenCardSaid : Prop := Claim7.holds Tryz.pinned (.plain (OpenSpec.ofChange batchTakenSpec)) batchTakenCard

/-- THE SECOND FORM's CARD OF 'packtrainkeep.BatchTaken'. -/
def batchTakenUptoCard : Claim7 := { stood := { row := batchTakenUptoRow, standIns := [], harness := (true, "99f32ea3e92d32bf1b4808065185e23140251fa3248e8a77d6d81391338b9001"), looks := true }, kinds := [], alts := [], laidByText := true, laidKinds := [.handle], laidTests := true, laidLooks := .later }
def BatchTakenUptoCardSaid : Prop := Claim7.holds Tryz.pinned (.plain (OpenSpec.upto batchTakenSpec)) batchTakenUptoCard
end Rows
end Go.Proofs.YtbahalckcenfmaaGreatDoor
