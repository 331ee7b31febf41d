/-
  DERIVED. GIVEN WITH THE SEED: THE CARDS: each row of YtoimjnmhinfbkaaGreatDoorRows.lean that lists a variable, with what it lists TIED to the program's text (the seventh form; the later family's looks); each row that meets fmt, with fmt's text TOLD by the authors' own Lean function (tested against real Go, not proved from fmt's source: count such statements apart). THE CARD IS WHAT COUNTS. Prove the row's statement (the work); the ties are given (YtoimjnmhinfbkaaGreatDoorTie.lean); close each card by the builder's one call (the guide's Derived/Test/ToyasCard.lean, 'card_holds'). Laid BY PROGRAM, IN A SANDBOX (cutbox-door.mjs). By AI agents, Wed Nov 11 2026. No macro, syntax, notation, axiom, sorry.
-/
import Derived.Test.YtoimjnmhinfbkaaGreatDoorRows
import GoSem.ClaimSeven
namespace Go.Proofs.YtoimjnmhinfbkaaGreatDoor
namespace Rows

/-- THE TIED CARD OF 'crossdocklaw16.LookWhole'. -/
def lookWholeCard : Claim7 := { stood := { row := lookWholeRow, standIns := [], harness := (true, "2bc1abe1453bdf85aece6a0971088b9d7654038f5fb4ec13339ac3eabdd1e54c"), looks := true }, kinds := [], alts := [], laidByText := true, laidKinds := [.data, .data, .data, .data, .sentinel, .sentinel, .pinned], laidTests := true, laidLooks := .later }
def LookWholeCardSaid : Prop := Claim7.holds Tryz.pinned (.plain (OpenSpec.ofChange lookWholeSpec)) lookWholeCard

/-- THE TIED CARD OF 'crossdocklaw16.LookPlays'. -/
def lookPlaysCard : Claim7 := { stood := { row := lookPlaysRow, standIns := [], harness := (true, "2bc1abe1453bdf85aece6a0971088b9d7654038f5fb4ec13339ac3eabdd1e54c"), looks := true }, kinds := [], alts := [], laidByText := true, laidKinds := [.data, .data, .data, .data, .sentinel, .sentinel, .pinned], laidTests := true, laidLooks := .later }
def LookPlaysCardSaid : Prop := Claim7.holds Tryz.pinned (.plain (OpenSpec.ofChange lookPlaysSpec)) lookPlaysCard

/-- THE TIED CARD OF 'crossdocklaw23.DescTakes'. -/
def descTakesCard : Claim7 := { stood := { row := descTakesRow, standIns := [], harness := (true, "2bc1abe1453bdf85aece6a0971088b9d7654038f5fb4ec13339ac3eabdd1e54c"), looks := true }, kinds := [], alts := [], laidByText := true, laidKinds := [.data, .data, .data, .data, .sentinel, .sentinel, .pinned], laidTests := true, laidLooks := .later }
def DescTakesCardSaid : Prop := Claim7.holds Tryz.pinned (.plain (OpenSpec.ofChange descTakesSpec)) descTakesCard

/-- THE TIED CARD OF 'crossdocklaw23.DescChecks'. -/
def descChecksCard : Claim7 := { stood := { row := descChecksRow, standIns := [], harness := (true, "2bc1abe1453bdf85aece6a0971088b9d7654038f5fb4ec13339ac3eabdd1e54c"), looks := true }, kinds := [], alts := [], laidByText := true, laidKinds := [.data, .data, .data, .data, .sentinel, .sentinel, .pinned], laidTests := true, laidLooks := .later }
def DescChecksCardSaid : Prop := Claim7.holds Tryz.pinned (.plain (OpenSpec.ofChange descChecksSpec)) descChecksCard

/-- THE TIED CARD OF 'crossdocklaw23.DescFetches'. -/
def descFetchesCard : Claim7 := { stood := { row := descFetchesRow, standIns := [], harness := (true, "2bc1abe1453bdf85aece6a0971088b9d7654038f5fb4ec13339ac3eabdd1e54c"), looks := true }, kinds := [], alts := [], laidByText := true, laidKinds := [.data, .data, .data, .data, .data, .data, .sentinel, .sentinel, .pinned], laidTests := true, laidLooks := .later }
def DescFetchesCardSaid : Prop := Claim7.holds Tryz.pinned (.plain (OpenSpec.ofChange descFetchesSpec)) descFetchesCard

/-- THE SECOND FORM's CARD OF 'crossdocklaw16.LookWhole'. -/
def lookWholeUptoCard : Claim7 := { stood := { row := lookWholeUptoRow, standIns := [], harness := (true, "2bc1abe1453bdf85aece6a0971088b9d7654038f5fb4ec13339ac3eabdd1e54c"), looks := true }, kinds := [], alts := [], laidByText := true, laidKinds := [.data, .data, .data, .data, .sentinel, .sentinel, .pinned], laidTests := true, laidLooks := .later }
def LookWholeUptoCardSaid : Prop := Claim7.holds Tryz.pinned (.plain (OpenSpec.upto lookWholeSpec)) lookWholeUptoCard

/-- THE SECOND FORM's CARD OF 'crossdocklaw16.LookPlays'. -/
def lookPlaysUptoCard : Claim7 := { stood := { row := lookPlaysUptoRow, standIns := [], harness := (true, "2bc1abe1453bdf85aece6a0971088b9d7654038f5fb4ec13339ac3eabdd1e54c"), looks := true }, kinds := [], alts := [], laidByText := true, laidKinds := [.data, .data, .data, .data, .sentinel, .sentinel, .pinned], laidTests := true, laidLooks := .later }
def LookPlaysUptoCardSaid : Prop := Claim7.holds Tryz.pinned (.plain (OpenSpec.upto lookPlaysSpec)) lookPlaysUptoCard

/-- THE SECOND FORM's CARD OF 'crossdocklaw23.DescTakes'. -/
def descTakesUptoCard : Claim7 := { stood := { row := descTakesUptoRow, standIns := [], harness := (true, "2bc1abe1453bdf85aece6a0971088b9d7654038f5fb4ec13339ac3eabdd1e54c"), looks := true }, kinds := [], alts := [], laidByText := true, laidKinds := [.data, .data, .data, .data, .sentinel, .sentinel, .pinned], laidTests := true, laidLooks := .later }
def DescTakesUptoCardSaid : Prop := Claim7.holds Tryz.pinned (.plain (OpenSpec.upto descTakesSpec)) descTakesUptoCard

/-- THE SECOND FORM's CARD OF 'crossdocklaw23.DescChecks'. -/
def descChecksUptoCard : Claim7 := { stood := { row := descChecksUptoRow, standIns := [], harness := (true, "2bc1abe1453bdf85aece6a0971088b9d7654038f5fb4ec13339ac3eabdd1e54c"), looks := true }, kinds := [], alts := [], laidByText := true, laidKinds := [.data, .data, .data, .data, .sentinel, .sentinel, .pinned], laidTests := true, laidLooks := .later }
def DescChecksUptoCardSaid : Prop := Claim7.holds Tryz.pinned (.plain (OpenSpec.upto descChecksSpec)) descChecksUptoCard

/-- THE SECOND FORM's CARD OF 'crossdocklaw23.DescFetches'. -/
def descFetchesUptoCard : Claim7 := { stood := { row := descFetchesUptoRow, standIns := [], harness := (true, "2bc1abe1453bdf85aece6a0971088b9d7654038f5fb4ec13339ac3eabdd1e54c"), looks := true }, kinds := [], alts := [], laidByText := true, laidKinds := [.data, .data, .data, .data, .data, .data, .sentinel, .sentinel, .pinned], laidTests := true, laidLooks := .later }
def DescFetchesUptoCardSaid : Prop := Claim7.holds Tryz.pinned (.plain (OpenSpec.upto descFetchesSpec)) descFetchesUptoCard
end Rows
end Go.Proofs.YtoimjnmhinfbkaaGreatDoor
