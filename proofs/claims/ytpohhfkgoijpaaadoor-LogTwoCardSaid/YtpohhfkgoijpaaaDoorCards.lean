/-
  DERIVED. GIVEN WITH THE SEED: THE CARDS: each row of YtpohhfkgoijpaaaDoorRows.lean that lists a variable, with what it lists TIED to the program's text (the seventh form; the later family's looks); each row that meets fmt, with fmt's text TOLD by the authors' own Lean function (tested against real Go, not proved from fmt's source: count such statements apart). THE CARD IS WHAT COUNTS. Prove the row's statement (the work); the ties are given (YtpohhfkgoijpaaaDoorTie.lean); close each card by the builder's one call (the guide's Derived/Test/ToyasCard.lean, 'card_holds'). Laid BY PROGRAM, IN A SANDBOX (cutbox-door.mjs). By AI agents, Wed Nov 11 2026. No macro, syntax, notation, axiom, sorry.
-/
import Derived.Test.YtpohhfkgoijpaaaDoorRows
import GoSem.ClaimSeven
namespace Go.Proofs.YtpohhfkgoijpaaaDoor
namespace Rows

/-- THE TIED CARD OF 'packtrainkeep.LogFull'. -/
def logFullCard : Claim7 := { stood := { row := logFullRow, standIns := [], harness := (true, "2bcd434ee5a92cf71cfe144e3334ec96c98033e1f4489249f5a97df820d555b9"), looks := true }, kinds := [], alts := [], laidByText := true, laidKinds := [.handle], laidTests := true, laidLooks := .later }
def LogFullCardSaid : Prop := Claim7.holds Tryd.pinned (.plain (OpenSpec.ofChange logFullSpec)) logFullCard

/-- THE TIED CARD OF 'packtrainkeep.LogLong'. -/
def logLongCard : Claim7 := { stood := { row := logLongRow, standIns := [], harness := (true, "2bcd434ee5a92cf71cfe144e3334ec96c98033e1f4489249f5a97df820d555b9"), looks := true }, kinds := [], alts := [], laidByText := true, laidKinds := [.handle], laidTests := true, laidLooks := .later }
def LogLongCardSaid : Prop := Claim7.holds Tryd.pinned (.plain (OpenSpec.ofChange logLongSpec)) logLongCard

/-- THE TIED CARD OF 'packtrainkeep.LogTwo'. -/
def logTwoCard : Claim7 := { stood := { row := logTwoRow, standIns := [], harness := (true, "2bcd434ee5a92cf71cfe144e3334ec96c98033e1f4489249f5a97df820d555b9"), looks := true }, kinds := [], alts := [], laidByText := true, laidKinds := [.handle], laidTests := true, laidLooks := .later }
def LogTwoCardSaid : Prop := Claim7.holds Tryd.pinned (.plain (OpenSpec.ofChange logTwoSpec)) logTwoCard

/-- THE TIED CARD OF 'packtrainkeep.StoreLists'. -/
def storeListsCard : Claim7 := { stood := { row := storeListsRow, standIns := [], harness := (true, "2bcd434ee5a92cf71cfe144e3334ec96c98033e1f4489249f5a97df820d555b9"), looks := true }, kinds := [], alts := [], laidByText := true, laidKinds := [.handle], laidTests := true, laidLooks := .later }
def StoreListsCardSaid : Prop := Claim7.holds Tryd.pinned (.plain (OpenSpec.ofChange storeListsSpec)) storeListsCard

/-- THE SECOND FORM's CARD OF 'packtrainkeep.LogFull'. -/
def logFullUptoCard : Claim7 := { stood := { row := logFullUptoRow, standIns := [], harness := (true, "2bcd434ee5a92cf71cfe144e3334ec96c98033e1f4489249f5a97df820d555b9"), looks := true }, kinds := [], alts := [], laidByText := true, laidKinds := [.handle], laidTests := true, laidLooks := .later }
def LogFullUptoCardSaid : Prop := Claim7.holds Tryd.pinned (.plain (OpenSpec.upto logFullSpec)) logFullUptoCard

/-- THE SECOND FORM's CARD OF 'packtrainkeep.LogLong'. -/
def logLongUptoCard : Claim7 := { stood := { row := logLongUptoRow, standIns := [], harness := (true, "2bcd434ee5a92cf71cfe144e3334ec96c98033e1f4489249f5a97df820d555b9"), looks := true }, kinds := [], alts := [], laidByText := true, laidKinds := [.handle], laidTests := true, laidLooks := .later }
def LogLongUptoCardSaid : Prop := Claim7.holds Tryd.pinned (.plain (OpenSpec.upto logLongSpec)) logLongUptoCard

/-- THE SECOND FORM's CARD OF 'packtrainkeep.LogTwo'. -/
def logTwoUptoCard : Claim7 := { stood := { row := logTwoUptoRow, standIns := [], harness := (true, "2bcd434ee5a92cf71cfe144e3334ec96c98033e1f4489249f5a97df820d555b9"), looks := true }, kinds := [], alts := [], laidByText := true, laidKinds := [.handle], laidTests := true, laidLooks := .later }
def LogTwoUptoCardSaid : Prop := Claim7.holds Tryd.pinned (.plain (OpenSpec.upto logTwoSpec)) logTwoUptoCard

/-- THE SECOND FORM's CARD OF 'packtrainkeep.StoreLists'. -/
def storeListsUptoCard : Claim7 := { stood := { row := storeListsUptoRow, standIns := [], harness := (true, "2bcd434ee5a92cf71cfe144e3334ec96c98033e1f4489249f5a97df820d555b9"), looks := true }, kinds := [], alts := [], laidByText := true, laidKinds := [.handle], laidTests := true, laidLooks := .later }
def StoreListsUptoCardSaid : Prop := Claim7.holds Tryd.pinned (.plain (OpenSpec.upto storeListsSpec)) storeListsUptoCard
end Rows
end Go.Proofs.YtpohhfkgoijpaaaDoor
